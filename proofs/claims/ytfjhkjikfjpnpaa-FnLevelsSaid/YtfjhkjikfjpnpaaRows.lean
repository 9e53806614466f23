/-
  No cell of these rows narrows 'for every input' (looked for: loops, veiled, ifaces, maps, wideKeys, modest, calm, conditions, laid).
  DERIVED. THE GIVEN ROWS OF THIS SEAT. 12 by the template 'for every input the law returns true; each argument reads behind the call as it read before'; 0 by the template 'total and deterministic' (their statements: YtfjhkjikfjpnpaaTotals.lean).
  GIVEN WITH THE SEED: the statements are not yours to turn. If you find one false, say at which input.
  Laid BY PROGRAM, IN A SANDBOX (cutbox-rows.mjs): the forced cells as the released guide's own fill.sh prints them over the translation 6d18e8ec2a7a2908… (all of the seat's roots in one cut). By AI agents, Wed Nov 11 2026. No macro, syntax, notation, axiom, sorry.
-/
import Derived.Test.YtfjhkjikfjpnpaaChecked
import GoSem.Claim
import GoSem.ClaimJoined
import GoSem.ClaimMapViews
import Derived.JoinedTies
import Derived.KernelRfl
namespace Go.Proofs.Ytfjhkjikfjpnpaa
/- THE CELL 'sum', in the pinned program and in every row, IS THE sha256 OF THE DUMP (.gsa) THAT YtfjhkjikfjpnpaaProg.lean LOADS. Nothing in Lean hashes anything: it is a label: what it is worth is what the hold of that sum in a sandbox is worth. -/
noncomputable def Try.pinned : Pinned := { name := "ytfjhkjikfjpnpaa", sum := "6d18e8ec2a7a2908c5cc35300fc090a9ed9e5035481466524fe7bc13e608fb55", checked := Try.checked }
namespace Rows
def none {H : Type} : Left H := { results := [], args := [] }

/-- 'laws.FnPairsNeeded': WHATEVER THE INPUT: true; the input reads as it did. -/
def fnPairsNeededSpec : ChangeSpec := { name := "fnPairsNeeded", fn := fun _ => fun
  | [d] => { results := [.lit (.bool true)], args := [d] }
  | _ => none }
def fnPairsNeededRow : OpenClaim := { program := "ytfjhkjikfjpnpaa", sum := "6d18e8ec2a7a2908c5cc35300fc090a9ed9e5035481466524fe7bc13e608fb55", func := "loop.example/g00869/laws.FnPairsNeeded", spec := "fnPairsNeeded", unfollowed := true, recurses := true, apart := false }
def FnPairsNeededSaid : Prop := fnPairsNeededRow.holds Try.pinned (OpenSpec.ofChange fnPairsNeededSpec)

/-- ITS FALSE NEIGHBOUR: 'it returns false'. Refute it at one input. -/
def fnPairsNeededWrong : ChangeSpec := { name := "fnPairsNeeded", fn := fun _ => fun
  | [d] => { results := [.lit (.bool false)], args := [d] }
  | _ => none }
def FnPairsNeededWrongFalsely : Prop := fnPairsNeededRow.holds Try.pinned (OpenSpec.ofChange fnPairsNeededWrong)

/-- 'laws.FnExactJoinedGame': WHATEVER THE INPUT: true; the input reads as it did. -/
def fnExactJoinedGameSpec : ChangeSpec := { name := "fnExactJoinedGame", fn := fun _ => fun
  | [d1, d2] => { results := [.lit (.bool true)], args := [d1, d2] }
  | _ => none }
def fnExactJoinedGameRow : OpenClaim := { program := "ytfjhkjikfjpnpaa", sum := "6d18e8ec2a7a2908c5cc35300fc090a9ed9e5035481466524fe7bc13e608fb55", func := "loop.example/g00869/laws.FnExactJoinedGame", spec := "fnExactJoinedGame", apart := false }
def FnExactJoinedGameSaid : Prop := fnExactJoinedGameRow.holds Try.pinned (OpenSpec.ofChange fnExactJoinedGameSpec)

/-- ITS FALSE NEIGHBOUR: 'it returns false'. Refute it at one input. -/
def fnExactJoinedGameWrong : ChangeSpec := { name := "fnExactJoinedGame", fn := fun _ => fun
  | [d1, d2] => { results := [.lit (.bool false)], args := [d1, d2] }
  | _ => none }
def FnExactJoinedGameWrongFalsely : Prop := fnExactJoinedGameRow.holds Try.pinned (OpenSpec.ofChange fnExactJoinedGameWrong)

/-- 'laws.FnExactRaisedGame': WHATEVER THE INPUT: true; the input reads as it did. -/
def fnExactRaisedGameSpec : ChangeSpec := { name := "fnExactRaisedGame", fn := fun _ => fun
  | [d1, d2] => { results := [.lit (.bool true)], args := [d1, d2] }
  | _ => none }
def fnExactRaisedGameRow : OpenClaim := { program := "ytfjhkjikfjpnpaa", sum := "6d18e8ec2a7a2908c5cc35300fc090a9ed9e5035481466524fe7bc13e608fb55", func := "loop.example/g00869/laws.FnExactRaisedGame", spec := "fnExactRaisedGame", apart := false }
def FnExactRaisedGameSaid : Prop := fnExactRaisedGameRow.holds Try.pinned (OpenSpec.ofChange fnExactRaisedGameSpec)

/-- ITS FALSE NEIGHBOUR: 'it returns false'. Refute it at one input. -/
def fnExactRaisedGameWrong : ChangeSpec := { name := "fnExactRaisedGame", fn := fun _ => fun
  | [d1, d2] => { results := [.lit (.bool false)], args := [d1, d2] }
  | _ => none }
def FnExactRaisedGameWrongFalsely : Prop := fnExactRaisedGameRow.holds Try.pinned (OpenSpec.ofChange fnExactRaisedGameWrong)

/-- 'laws.FnLevels': WHATEVER THE INPUT: true; the input reads as it did. -/
def fnLevelsSpec : ChangeSpec := { name := "fnLevels", fn := fun _ => fun
  | [d] => { results := [.lit (.bool true)], args := [d] }
  | _ => none }
def fnLevelsRow : OpenClaim := { program := "ytfjhkjikfjpnpaa", sum := "6d18e8ec2a7a2908c5cc35300fc090a9ed9e5035481466524fe7bc13e608fb55", func := "loop.example/g00869/laws.FnLevels", spec := "fnLevels", unfollowed := true, recurses := true, apart := false }
def FnLevelsSaid : Prop := fnLevelsRow.holds Try.pinned (OpenSpec.ofChange fnLevelsSpec)

/-- ITS FALSE NEIGHBOUR: 'it returns false'. Refute it at one input. -/
def fnLevelsWrong : ChangeSpec := { name := "fnLevels", fn := fun _ => fun
  | [d] => { results := [.lit (.bool false)], args := [d] }
  | _ => none }
def FnLevelsWrongFalsely : Prop := fnLevelsRow.holds Try.pinned (OpenSpec.ofChange fnLevelsWrong)

/-- 'laws.FnReach': WHATEVER THE INPUT: true; the input reads as it did. -/
def fnReachSpec : ChangeSpec := { name := "fnReach", fn := fun _ => fun
  | [d] => { results := [.lit (.bool true)], args := [d] }
  | _ => none }
def fnReachRow : OpenClaim := { program := "ytfjhkjikfjpnpaa", sum := "6d18e8ec2a7a2908c5cc35300fc090a9ed9e5035481466524fe7bc13e608fb55", func := "loop.example/g00869/laws.FnReach", spec := "fnReach", unfollowed := true, recurses := true, apart := false }
def FnReachSaid : Prop := fnReachRow.holds Try.pinned (OpenSpec.ofChange fnReachSpec)

/-- ITS FALSE NEIGHBOUR: 'it returns false'. Refute it at one input. -/
def fnReachWrong : ChangeSpec := { name := "fnReach", fn := fun _ => fun
  | [d] => { results := [.lit (.bool false)], args := [d] }
  | _ => none }
def FnReachWrongFalsely : Prop := fnReachRow.holds Try.pinned (OpenSpec.ofChange fnReachWrong)

/-- 'laws.FnExactOftenPlan': WHATEVER THE INPUT: true; the input reads as it did. -/
def fnExactOftenPlanSpec : ChangeSpec := { name := "fnExactOftenPlan", fn := fun _ => fun
  | [d1, d2, d3] => { results := [.lit (.bool true)], args := [d1, d2, d3] }
  | _ => none }
def fnExactOftenPlanRow : OpenClaim := { program := "ytfjhkjikfjpnpaa", sum := "6d18e8ec2a7a2908c5cc35300fc090a9ed9e5035481466524fe7bc13e608fb55", func := "loop.example/g00869/laws.FnExactOftenPlan", spec := "fnExactOftenPlan", unfollowed := true, recurses := true, apart := false }
def FnExactOftenPlanSaid : Prop := fnExactOftenPlanRow.holds Try.pinned (OpenSpec.ofChange fnExactOftenPlanSpec)

/-- ITS FALSE NEIGHBOUR: 'it returns false'. Refute it at one input. -/
def fnExactOftenPlanWrong : ChangeSpec := { name := "fnExactOftenPlan", fn := fun _ => fun
  | [d1, d2, d3] => { results := [.lit (.bool false)], args := [d1, d2, d3] }
  | _ => none }
def FnExactOftenPlanWrongFalsely : Prop := fnExactOftenPlanRow.holds Try.pinned (OpenSpec.ofChange fnExactOftenPlanWrong)

/-- 'laws.FnOften': WHATEVER THE INPUT: true; the input reads as it did. -/
def fnOftenSpec : ChangeSpec := { name := "fnOften", fn := fun _ => fun
  | [d] => { results := [.lit (.bool true)], args := [d] }
  | _ => none }
def fnOftenRow : OpenClaim := { program := "ytfjhkjikfjpnpaa", sum := "6d18e8ec2a7a2908c5cc35300fc090a9ed9e5035481466524fe7bc13e608fb55", func := "loop.example/g00869/laws.FnOften", spec := "fnOften", unfollowed := true, recurses := true, apart := false }
def FnOftenSaid : Prop := fnOftenRow.holds Try.pinned (OpenSpec.ofChange fnOftenSpec)

/-- ITS FALSE NEIGHBOUR: 'it returns false'. Refute it at one input. -/
def fnOftenWrong : ChangeSpec := { name := "fnOften", fn := fun _ => fun
  | [d] => { results := [.lit (.bool false)], args := [d] }
  | _ => none }
def FnOftenWrongFalsely : Prop := fnOftenRow.holds Try.pinned (OpenSpec.ofChange fnOftenWrong)

/-- 'laws.FnExactRestOf': WHATEVER THE INPUT: true; the input reads as it did. -/
def fnExactRestOfSpec : ChangeSpec := { name := "fnExactRestOf", fn := fun _ => fun
  | [d1, d2] => { results := [.lit (.bool true)], args := [d1, d2] }
  | _ => none }
def fnExactRestOfRow : OpenClaim := { program := "ytfjhkjikfjpnpaa", sum := "6d18e8ec2a7a2908c5cc35300fc090a9ed9e5035481466524fe7bc13e608fb55", func := "loop.example/g00869/laws.FnExactRestOf", spec := "fnExactRestOf", apart := false }
def FnExactRestOfSaid : Prop := fnExactRestOfRow.holds Try.pinned (OpenSpec.ofChange fnExactRestOfSpec)

/-- ITS FALSE NEIGHBOUR: 'it returns false'. Refute it at one input. -/
def fnExactRestOfWrong : ChangeSpec := { name := "fnExactRestOf", fn := fun _ => fun
  | [d1, d2] => { results := [.lit (.bool false)], args := [d1, d2] }
  | _ => none }
def FnExactRestOfWrongFalsely : Prop := fnExactRestOfRow.holds Try.pinned (OpenSpec.ofChange fnExactRestOfWrong)

/-- 'laws.FnExactRenamedGame': WHATEVER THE INPUT: true; the input reads as it did. -/
def fnExactRenamedGameSpec : ChangeSpec := { name := "fnExactRenamedGame", fn := fun _ => fun
  | [d1, d2] => { results := [.lit (.bool true)], args := [d1, d2] }
  | _ => none }
def fnExactRenamedGameRow : OpenClaim := { program := "ytfjhkjikfjpnpaa", sum := "6d18e8ec2a7a2908c5cc35300fc090a9ed9e5035481466524fe7bc13e608fb55", func := "loop.example/g00869/laws.FnExactRenamedGame", spec := "fnExactRenamedGame", recurses := true, apart := false }
def FnExactRenamedGameSaid : Prop := fnExactRenamedGameRow.holds Try.pinned (OpenSpec.ofChange fnExactRenamedGameSpec)

/-- ITS FALSE NEIGHBOUR: 'it returns false'. Refute it at one input. -/
def fnExactRenamedGameWrong : ChangeSpec := { name := "fnExactRenamedGame", fn := fun _ => fun
  | [d1, d2] => { results := [.lit (.bool false)], args := [d1, d2] }
  | _ => none }
def FnExactRenamedGameWrongFalsely : Prop := fnExactRenamedGameRow.holds Try.pinned (OpenSpec.ofChange fnExactRenamedGameWrong)

/-- 'laws.FnExactParityPairs': WHATEVER THE INPUT: true; the input reads as it did. -/
def fnExactParityPairsSpec : ChangeSpec := { name := "fnExactParityPairs", fn := fun _ => fun
  | [d] => { results := [.lit (.bool true)], args := [d] }
  | _ => none }
def fnExactParityPairsRow : OpenClaim := { program := "ytfjhkjikfjpnpaa", sum := "6d18e8ec2a7a2908c5cc35300fc090a9ed9e5035481466524fe7bc13e608fb55", func := "loop.example/g00869/laws.FnExactParityPairs", spec := "fnExactParityPairs", recurses := true, apart := false }
def FnExactParityPairsSaid : Prop := fnExactParityPairsRow.holds Try.pinned (OpenSpec.ofChange fnExactParityPairsSpec)

/-- ITS FALSE NEIGHBOUR: 'it returns false'. Refute it at one input. -/
def fnExactParityPairsWrong : ChangeSpec := { name := "fnExactParityPairs", fn := fun _ => fun
  | [d] => { results := [.lit (.bool false)], args := [d] }
  | _ => none }
def FnExactParityPairsWrongFalsely : Prop := fnExactParityPairsRow.holds Try.pinned (OpenSpec.ofChange fnExactParityPairsWrong)

/-- 'laws.FnParityPairs': WHATEVER THE INPUT: true; the input reads as it did. -/
def fnParityPairsSpec : ChangeSpec := { name := "fnParityPairs", fn := fun _ => fun
  | [d] => { results := [.lit (.bool true)], args := [d] }
  | _ => none }
def fnParityPairsRow : OpenClaim := { program := "ytfjhkjikfjpnpaa", sum := "6d18e8ec2a7a2908c5cc35300fc090a9ed9e5035481466524fe7bc13e608fb55", func := "loop.example/g00869/laws.FnParityPairs", spec := "fnParityPairs", recurses := true, apart := false }
def FnParityPairsSaid : Prop := fnParityPairsRow.holds Try.pinned (OpenSpec.ofChange fnParityPairsSpec)

/-- ITS FALSE NEIGHBOUR: 'it returns false'. Refute it at one input. -/
def fnParityPairsWrong : ChangeSpec := { name := "fnParityPairs", fn := fun _ => fun
  | [d] => { results := [.lit (.bool false)], args := [d] }
  | _ => none }
def FnParityPairsWrongFalsely : Prop := fnParityPairsRow.holds Try.pinned (OpenSpec.ofChange fnParityPairsWrong)

/-- 'laws.FnJoinedGames': WHATEVER THE INPUT: true; the input reads as it did. -/
def fnJoinedGamesSpec : ChangeSpec := { name := "fnJoinedGames", fn := fun _ => fun
  | [d] => { results := [.lit (.bool true)], args := [d] }
  | _ => none }
def fnJoinedGamesRow : OpenClaim := { program := "ytfjhkjikfjpnpaa", sum := "6d18e8ec2a7a2908c5cc35300fc090a9ed9e5035481466524fe7bc13e608fb55", func := "loop.example/g00869/laws.FnJoinedGames", spec := "fnJoinedGames", recurses := true, apart := false }
def FnJoinedGamesSaid : Prop := fnJoinedGamesRow.holds Try.pinned (OpenSpec.ofChange fnJoinedGamesSpec)

/-- ITS FALSE NEIGHBOUR: 'it returns false'. Refute it at one input. -/
def fnJoinedGamesWrong : ChangeSpec := { name := "fnJoinedGames", fn := fun _ => fun
  | [d] => { results := [.lit (.bool false)], args := [d] }
  | _ => none }
def FnJoinedGamesWrongFalsely : Prop := fnJoinedGamesRow.holds Try.pinned (OpenSpec.ofChange fnJoinedGamesWrong)

/- THE SECOND FORM. 'bulk': how many values and letters a reading holds, each counted each time it is reached (what is shared counts as often as it is met; a slice's spare places count too). A statement '..UptoSaid' is the law's where the arguments, and the package variables that the reading takes, are together of bulk at most 1048576: NARROWER than '..Said'. Prove '..Said' where nothing that the law and all that it calls make is longer than what came in: it says more and counts as full. Else prove '..UptoSaid'. A law counts once. -/
mutual
def uptoBulk {H : Type} : DataW H → Nat
  | .lit (.string bytes) => bytes.length + 1
  | .lit _ => 1
  | .nil => 1
  | .ptr d => uptoBulk d + 1
  | .slice elems spare => uptoBulkAll elems + uptoBulkAll spare + 1
  | .agg parts => uptoBulkAll parts + 1
  | .iface _ d => uptoBulk d + 1
  | .map entries => uptoBulkEntries entries + 1
  | .held _ => 1
def uptoBulkAll {H : Type} : List (DataW H) → Nat
  | [] => 0
  | d :: r => uptoBulk d + uptoBulkAll r
def uptoBulkEntries {H : Type} : List (Lit × DataW H) → Nat
  | [] => 0
  | x :: r => uptoBulkEntry x + uptoBulkEntries r
def uptoBulkEntry {H : Type} : Lit × DataW H → Nat
  | (.string bytes, d) => bytes.length + uptoBulk d + 1
  | (_, d) => uptoBulk d + 1
 end
def uptoSmall : (H : Type) → List (DataW H) → Bool := fun _ ds => decide (uptoBulkAll ds ≤ 1048576)
def OpenSpec.upto (s : _root_.Go.ChangeSpec) : _root_.Go.OpenSpec := { _root_.Go.OpenSpec.ofChange s with cond := some uptoSmall }

/-- 'laws.FnPairsNeeded', WHERE WHAT IT READS IS OF BULK AT MOST 1048576: true; the input reads as it did. -/
def fnPairsNeededUptoRow : OpenClaim := { program := "ytfjhkjikfjpnpaa", sum := "6d18e8ec2a7a2908c5cc35300fc090a9ed9e5035481466524fe7bc13e608fb55", func := "loop.example/g00869/laws.FnPairsNeeded", spec := "fnPairsNeeded", unfollowed := true, recurses := true, apart := false, narrowed := true }
def FnPairsNeededUptoSaid : Prop := fnPairsNeededUptoRow.holds Try.pinned (OpenSpec.upto fnPairsNeededSpec)

/-- 'laws.FnExactJoinedGame', WHERE WHAT IT READS IS OF BULK AT MOST 1048576: true; the input reads as it did. -/
def fnExactJoinedGameUptoRow : OpenClaim := { program := "ytfjhkjikfjpnpaa", sum := "6d18e8ec2a7a2908c5cc35300fc090a9ed9e5035481466524fe7bc13e608fb55", func := "loop.example/g00869/laws.FnExactJoinedGame", spec := "fnExactJoinedGame", apart := false, narrowed := true }
def FnExactJoinedGameUptoSaid : Prop := fnExactJoinedGameUptoRow.holds Try.pinned (OpenSpec.upto fnExactJoinedGameSpec)

/-- 'laws.FnExactRaisedGame', WHERE WHAT IT READS IS OF BULK AT MOST 1048576: true; the input reads as it did. -/
def fnExactRaisedGameUptoRow : OpenClaim := { program := "ytfjhkjikfjpnpaa", sum := "6d18e8ec2a7a2908c5cc35300fc090a9ed9e5035481466524fe7bc13e608fb55", func := "loop.example/g00869/laws.FnExactRaisedGame", spec := "fnExactRaisedGame", apart := false, narrowed := true }
def FnExactRaisedGameUptoSaid : Prop := fnExactRaisedGameUptoRow.holds Try.pinned (OpenSpec.upto fnExactRaisedGameSpec)

/-- 'laws.FnLevels', WHERE WHAT IT READS IS OF BULK AT MOST 1048576: true; the input reads as it did. -/
def fnLevelsUptoRow : OpenClaim := { program := "ytfjhkjikfjpnpaa", sum := "6d18e8ec2a7a2908c5cc35300fc090a9ed9e5035481466524fe7bc13e608fb55", func := "loop.example/g00869/laws.FnLevels", spec := "fnLevels", unfollowed := true, recurses := true, apart := false, narrowed := true }
def FnLevelsUptoSaid : Prop := fnLevelsUptoRow.holds Try.pinned (OpenSpec.upto fnLevelsSpec)

/-- 'laws.FnReach', WHERE WHAT IT READS IS OF BULK AT MOST 1048576: true; the input reads as it did. -/
def fnReachUptoRow : OpenClaim := { program := "ytfjhkjikfjpnpaa", sum := "6d18e8ec2a7a2908c5cc35300fc090a9ed9e5035481466524fe7bc13e608fb55", func := "loop.example/g00869/laws.FnReach", spec := "fnReach", unfollowed := true, recurses := true, apart := false, narrowed := true }
def FnReachUptoSaid : Prop := fnReachUptoRow.holds Try.pinned (OpenSpec.upto fnReachSpec)

/-- 'laws.FnExactOftenPlan', WHERE WHAT IT READS IS OF BULK AT MOST 1048576: true; the input reads as it did. -/
def fnExactOftenPlanUptoRow : OpenClaim := { program := "ytfjhkjikfjpnpaa", sum := "6d18e8ec2a7a2908c5cc35300fc090a9ed9e5035481466524fe7bc13e608fb55", func := "loop.example/g00869/laws.FnExactOftenPlan", spec := "fnExactOftenPlan", unfollowed := true, recurses := true, apart := false, narrowed := true }
def FnExactOftenPlanUptoSaid : Prop := fnExactOftenPlanUptoRow.holds Try.pinned (OpenSpec.upto fnExactOftenPlanSpec)

/-- 'laws.FnOften', WHERE WHAT IT READS IS OF BULK AT MOST 1048576: true; the input reads as it did. -/
def fnOftenUptoRow : OpenClaim := { program := "ytfjhkjikfjpnpaa", sum := "6d18e8ec2a7a2908c5cc35300fc090a9ed9e5035481466524fe7bc13e608fb55", func := "loop.example/g00869/laws.FnOften", spec := "fnOften", unfollowed := true, recurses := true, apart := false, narrowed := true }
def FnOftenUptoSaid : Prop := fnOftenUptoRow.holds Try.pinned (OpenSpec.upto fnOftenSpec)

/-- 'laws.FnExactRestOf', WHERE WHAT IT READS IS OF BULK AT MOST 1048576: true; the input reads as it did. -/
def fnExactRestOfUptoRow : OpenClaim := { program := "ytfjhkjikfjpnpaa", sum := "6d18e8ec2a7a2908c5cc35300fc090a9ed9e5035481466524fe7bc13e608fb55", func := "loop.example/g00869/laws.FnExactRestOf", spec := "fnExactRestOf", apart := false, narrowed := true }
def FnExactRestOfUptoSaid : Prop := fnExactRestOfUptoRow.holds Try.pinned (OpenSpec.upto fnExactRestOfSpec)

/-- 'laws.FnExactRenamedGame', WHERE WHAT IT READS IS OF BULK AT MOST 1048576: true; the input reads as it did. -/
def fnExactRenamedGameUptoRow : OpenClaim := { program := "ytfjhkjikfjpnpaa", sum := "6d18e8ec2a7a2908c5cc35300fc090a9ed9e5035481466524fe7bc13e608fb55", func := "loop.example/g00869/laws.FnExactRenamedGame", spec := "fnExactRenamedGame", recurses := true, apart := false, narrowed := true }
def FnExactRenamedGameUptoSaid : Prop := fnExactRenamedGameUptoRow.holds Try.pinned (OpenSpec.upto fnExactRenamedGameSpec)

/-- 'laws.FnExactParityPairs', WHERE WHAT IT READS IS OF BULK AT MOST 1048576: true; the input reads as it did. -/
def fnExactParityPairsUptoRow : OpenClaim := { program := "ytfjhkjikfjpnpaa", sum := "6d18e8ec2a7a2908c5cc35300fc090a9ed9e5035481466524fe7bc13e608fb55", func := "loop.example/g00869/laws.FnExactParityPairs", spec := "fnExactParityPairs", recurses := true, apart := false, narrowed := true }
def FnExactParityPairsUptoSaid : Prop := fnExactParityPairsUptoRow.holds Try.pinned (OpenSpec.upto fnExactParityPairsSpec)

/-- 'laws.FnParityPairs', WHERE WHAT IT READS IS OF BULK AT MOST 1048576: true; the input reads as it did. -/
def fnParityPairsUptoRow : OpenClaim := { program := "ytfjhkjikfjpnpaa", sum := "6d18e8ec2a7a2908c5cc35300fc090a9ed9e5035481466524fe7bc13e608fb55", func := "loop.example/g00869/laws.FnParityPairs", spec := "fnParityPairs", recurses := true, apart := false, narrowed := true }
def FnParityPairsUptoSaid : Prop := fnParityPairsUptoRow.holds Try.pinned (OpenSpec.upto fnParityPairsSpec)

/-- 'laws.FnJoinedGames', WHERE WHAT IT READS IS OF BULK AT MOST 1048576: true; the input reads as it did. -/
def fnJoinedGamesUptoRow : OpenClaim := { program := "ytfjhkjikfjpnpaa", sum := "6d18e8ec2a7a2908c5cc35300fc090a9ed9e5035481466524fe7bc13e608fb55", func := "loop.example/g00869/laws.FnJoinedGames", spec := "fnJoinedGames", recurses := true, apart := false, narrowed := true }
def FnJoinedGamesUptoSaid : Prop := fnJoinedGamesUptoRow.holds Try.pinned (OpenSpec.upto fnJoinedGamesSpec)

end Rows
end Go.Proofs.Ytfjhkjikfjpnpaa
