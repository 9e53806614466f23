/-
  No cell of these rows narrows 'for every input' (looked for: loops, veiled, ifaces, maps, wideKeys, modest, calm, conditions, laid).
  DERIVED. THE GIVEN ROWS OF THIS SEAT. 12 by the template 'for every input the law returns true; each argument reads behind the call as it read before'; 0 by the template 'total and deterministic' (their statements: YtefjhkcafcchlaaTotals.lean).
  GIVEN WITH THE SEED: the statements are not yours to turn. If you find one false, say at which input.
  Laid BY PROGRAM, IN A SANDBOX (cutbox-rows.mjs): the forced cells as the released guide's own fill.sh prints them over the translation 680e10bc769f70d1… (all of the seat's roots in one cut). By AI agents, Wed Nov 11 2026. No macro, syntax, notation, axiom, sorry.
-/
import Derived.Test.YtefjhkcafcchlaaChecked
import GoSem.Claim
import GoSem.ClaimJoined
import GoSem.ClaimMapViews
import Derived.JoinedTies
import Derived.KernelRfl
namespace Go.Proofs.Ytefjhkcafcchlaa
/- THE CELL 'sum', in the pinned program and in every row, IS THE sha256 OF THE DUMP (.gsa) THAT YtefjhkcafcchlaaProg.lean LOADS. Nothing in Lean hashes anything: it is a label: what it is worth is what the hold of that sum in a sandbox is worth. -/
noncomputable def Try.pinned : Pinned := { name := "ytefjhkcafcchlaa", sum := "680e10bc769f70d1608ec36e2731f93c65dafb76de01c82ddf8317c39654e54d", checked := Try.checked }
namespace Rows
def none {H : Type} : Left H := { results := [], args := [] }

/-- 'laws.FnReach': WHATEVER THE INPUT: true; the input reads as it did. -/
def fnReachSpec : ChangeSpec := { name := "fnReach", fn := fun _ => fun
  | [d] => { results := [.lit (.bool true)], args := [d] }
  | _ => none }
def fnReachRow : OpenClaim := { program := "ytefjhkcafcchlaa", sum := "680e10bc769f70d1608ec36e2731f93c65dafb76de01c82ddf8317c39654e54d", func := "loop.example/g00869/laws.FnReach", spec := "fnReach", unfollowed := true, recurses := true, apart := false }
def FnReachSaid : Prop := fnReachRow.holds Try.pinned (OpenSpec.ofChange fnReachSpec)

/-- ITS FALSE NEIGHBOUR: 'it returns false'. Refute it at one input. -/
def fnReachWrong : ChangeSpec := { name := "fnReach", fn := fun _ => fun
  | [d] => { results := [.lit (.bool false)], args := [d] }
  | _ => none }
def FnReachWrongFalsely : Prop := fnReachRow.holds Try.pinned (OpenSpec.ofChange fnReachWrong)

/-- 'laws.FnOften': WHATEVER THE INPUT: true; the input reads as it did. -/
def fnOftenSpec : ChangeSpec := { name := "fnOften", fn := fun _ => fun
  | [d] => { results := [.lit (.bool true)], args := [d] }
  | _ => none }
def fnOftenRow : OpenClaim := { program := "ytefjhkcafcchlaa", sum := "680e10bc769f70d1608ec36e2731f93c65dafb76de01c82ddf8317c39654e54d", func := "loop.example/g00869/laws.FnOften", spec := "fnOften", unfollowed := true, recurses := true, apart := false }
def FnOftenSaid : Prop := fnOftenRow.holds Try.pinned (OpenSpec.ofChange fnOftenSpec)

/-- ITS FALSE NEIGHBOUR: 'it returns false'. Refute it at one input. -/
def fnOftenWrong : ChangeSpec := { name := "fnOften", fn := fun _ => fun
  | [d] => { results := [.lit (.bool false)], args := [d] }
  | _ => none }
def FnOftenWrongFalsely : Prop := fnOftenRow.holds Try.pinned (OpenSpec.ofChange fnOftenWrong)

/-- 'laws.FnJoinedGames': WHATEVER THE INPUT: true; the input reads as it did. -/
def fnJoinedGamesSpec : ChangeSpec := { name := "fnJoinedGames", fn := fun _ => fun
  | [d] => { results := [.lit (.bool true)], args := [d] }
  | _ => none }
def fnJoinedGamesRow : OpenClaim := { program := "ytefjhkcafcchlaa", sum := "680e10bc769f70d1608ec36e2731f93c65dafb76de01c82ddf8317c39654e54d", func := "loop.example/g00869/laws.FnJoinedGames", spec := "fnJoinedGames", recurses := true, apart := false }
def FnJoinedGamesSaid : Prop := fnJoinedGamesRow.holds Try.pinned (OpenSpec.ofChange fnJoinedGamesSpec)

/-- ITS FALSE NEIGHBOUR: 'it returns false'. Refute it at one input. -/
def fnJoinedGamesWrong : ChangeSpec := { name := "fnJoinedGames", fn := fun _ => fun
  | [d] => { results := [.lit (.bool false)], args := [d] }
  | _ => none }
def FnJoinedGamesWrongFalsely : Prop := fnJoinedGamesRow.holds Try.pinned (OpenSpec.ofChange fnJoinedGamesWrong)

/-- 'laws.FnKinds': WHATEVER THE INPUT: true; the input reads as it did. -/
def fnKindsSpec : ChangeSpec := { name := "fnKinds", fn := fun _ => fun
  | [d] => { results := [.lit (.bool true)], args := [d] }
  | _ => none }
def fnKindsRow : OpenClaim := { program := "ytefjhkcafcchlaa", sum := "680e10bc769f70d1608ec36e2731f93c65dafb76de01c82ddf8317c39654e54d", func := "loop.example/g00869/laws.FnKinds", spec := "fnKinds", recurses := true, apart := false }
def FnKindsSaid : Prop := fnKindsRow.holds Try.pinned (OpenSpec.ofChange fnKindsSpec)

/-- ITS FALSE NEIGHBOUR: 'it returns false'. Refute it at one input. -/
def fnKindsWrong : ChangeSpec := { name := "fnKinds", fn := fun _ => fun
  | [d] => { results := [.lit (.bool false)], args := [d] }
  | _ => none }
def FnKindsWrongFalsely : Prop := fnKindsRow.holds Try.pinned (OpenSpec.ofChange fnKindsWrong)

/-- 'laws.FnDiceGames': WHATEVER THE INPUT: true; the input reads as it did. -/
def fnDiceGamesSpec : ChangeSpec := { name := "fnDiceGames", fn := fun _ => fun
  | [d] => { results := [.lit (.bool true)], args := [d] }
  | _ => none }
def fnDiceGamesRow : OpenClaim := { program := "ytefjhkcafcchlaa", sum := "680e10bc769f70d1608ec36e2731f93c65dafb76de01c82ddf8317c39654e54d", func := "loop.example/g00869/laws.FnDiceGames", spec := "fnDiceGames", unfollowed := true, recurses := true, apart := false }
def FnDiceGamesSaid : Prop := fnDiceGamesRow.holds Try.pinned (OpenSpec.ofChange fnDiceGamesSpec)

/-- ITS FALSE NEIGHBOUR: 'it returns false'. Refute it at one input. -/
def fnDiceGamesWrong : ChangeSpec := { name := "fnDiceGames", fn := fun _ => fun
  | [d] => { results := [.lit (.bool false)], args := [d] }
  | _ => none }
def FnDiceGamesWrongFalsely : Prop := fnDiceGamesRow.holds Try.pinned (OpenSpec.ofChange fnDiceGamesWrong)

/-- 'laws.FnExactLadderGame': WHATEVER THE INPUT: true; the input reads as it did. -/
def fnExactLadderGameSpec : ChangeSpec := { name := "fnExactLadderGame", fn := fun _ => fun
  | [d] => { results := [.lit (.bool true)], args := [d] }
  | _ => none }
def fnExactLadderGameRow : OpenClaim := { program := "ytefjhkcafcchlaa", sum := "680e10bc769f70d1608ec36e2731f93c65dafb76de01c82ddf8317c39654e54d", func := "loop.example/g00869/laws.FnExactLadderGame", spec := "fnExactLadderGame", recurses := true, apart := false }
def FnExactLadderGameSaid : Prop := fnExactLadderGameRow.holds Try.pinned (OpenSpec.ofChange fnExactLadderGameSpec)

/-- ITS FALSE NEIGHBOUR: 'it returns false'. Refute it at one input. -/
def fnExactLadderGameWrong : ChangeSpec := { name := "fnExactLadderGame", fn := fun _ => fun
  | [d] => { results := [.lit (.bool false)], args := [d] }
  | _ => none }
def FnExactLadderGameWrongFalsely : Prop := fnExactLadderGameRow.holds Try.pinned (OpenSpec.ofChange fnExactLadderGameWrong)

/-- 'laws.FnExactDiceGame': WHATEVER THE INPUT: true; the input reads as it did. -/
def fnExactDiceGameSpec : ChangeSpec := { name := "fnExactDiceGame", fn := fun _ => fun
  | [d1, d2, d3, d4] => { results := [.lit (.bool true)], args := [d1, d2, d3, d4] }
  | _ => none }
def fnExactDiceGameRow : OpenClaim := { program := "ytefjhkcafcchlaa", sum := "680e10bc769f70d1608ec36e2731f93c65dafb76de01c82ddf8317c39654e54d", func := "loop.example/g00869/laws.FnExactDiceGame", spec := "fnExactDiceGame", unfollowed := true, recurses := true, apart := false }
def FnExactDiceGameSaid : Prop := fnExactDiceGameRow.holds Try.pinned (OpenSpec.ofChange fnExactDiceGameSpec)

/-- ITS FALSE NEIGHBOUR: 'it returns false'. Refute it at one input. -/
def fnExactDiceGameWrong : ChangeSpec := { name := "fnExactDiceGame", fn := fun _ => fun
  | [d1, d2, d3, d4] => { results := [.lit (.bool false)], args := [d1, d2, d3, d4] }
  | _ => none }
def FnExactDiceGameWrongFalsely : Prop := fnExactDiceGameRow.holds Try.pinned (OpenSpec.ofChange fnExactDiceGameWrong)

/-- 'laws.FnExactRenamedGame': WHATEVER THE INPUT: true; the input reads as it did. -/
def fnExactRenamedGameSpec : ChangeSpec := { name := "fnExactRenamedGame", fn := fun _ => fun
  | [d1, d2] => { results := [.lit (.bool true)], args := [d1, d2] }
  | _ => none }
def fnExactRenamedGameRow : OpenClaim := { program := "ytefjhkcafcchlaa", sum := "680e10bc769f70d1608ec36e2731f93c65dafb76de01c82ddf8317c39654e54d", func := "loop.example/g00869/laws.FnExactRenamedGame", spec := "fnExactRenamedGame", recurses := true, apart := false }
def FnExactRenamedGameSaid : Prop := fnExactRenamedGameRow.holds Try.pinned (OpenSpec.ofChange fnExactRenamedGameSpec)

/-- ITS FALSE NEIGHBOUR: 'it returns false'. Refute it at one input. -/
def fnExactRenamedGameWrong : ChangeSpec := { name := "fnExactRenamedGame", fn := fun _ => fun
  | [d1, d2] => { results := [.lit (.bool false)], args := [d1, d2] }
  | _ => none }
def FnExactRenamedGameWrongFalsely : Prop := fnExactRenamedGameRow.holds Try.pinned (OpenSpec.ofChange fnExactRenamedGameWrong)

/-- 'laws.FnExactRestOf': WHATEVER THE INPUT: true; the input reads as it did. -/
def fnExactRestOfSpec : ChangeSpec := { name := "fnExactRestOf", fn := fun _ => fun
  | [d1, d2] => { results := [.lit (.bool true)], args := [d1, d2] }
  | _ => none }
def fnExactRestOfRow : OpenClaim := { program := "ytefjhkcafcchlaa", sum := "680e10bc769f70d1608ec36e2731f93c65dafb76de01c82ddf8317c39654e54d", func := "loop.example/g00869/laws.FnExactRestOf", spec := "fnExactRestOf", apart := false }
def FnExactRestOfSaid : Prop := fnExactRestOfRow.holds Try.pinned (OpenSpec.ofChange fnExactRestOfSpec)

/-- ITS FALSE NEIGHBOUR: 'it returns false'. Refute it at one input. -/
def fnExactRestOfWrong : ChangeSpec := { name := "fnExactRestOf", fn := fun _ => fun
  | [d1, d2] => { results := [.lit (.bool false)], args := [d1, d2] }
  | _ => none }
def FnExactRestOfWrongFalsely : Prop := fnExactRestOfRow.holds Try.pinned (OpenSpec.ofChange fnExactRestOfWrong)

/-- 'laws.FnExactParityPairs': WHATEVER THE INPUT: true; the input reads as it did. -/
def fnExactParityPairsSpec : ChangeSpec := { name := "fnExactParityPairs", fn := fun _ => fun
  | [d] => { results := [.lit (.bool true)], args := [d] }
  | _ => none }
def fnExactParityPairsRow : OpenClaim := { program := "ytefjhkcafcchlaa", sum := "680e10bc769f70d1608ec36e2731f93c65dafb76de01c82ddf8317c39654e54d", func := "loop.example/g00869/laws.FnExactParityPairs", spec := "fnExactParityPairs", recurses := true, apart := false }
def FnExactParityPairsSaid : Prop := fnExactParityPairsRow.holds Try.pinned (OpenSpec.ofChange fnExactParityPairsSpec)

/-- ITS FALSE NEIGHBOUR: 'it returns false'. Refute it at one input. -/
def fnExactParityPairsWrong : ChangeSpec := { name := "fnExactParityPairs", fn := fun _ => fun
  | [d] => { results := [.lit (.bool false)], args := [d] }
  | _ => none }
def FnExactParityPairsWrongFalsely : Prop := fnExactParityPairsRow.holds Try.pinned (OpenSpec.ofChange fnExactParityPairsWrong)

/-- 'laws.FnParityPairs': WHATEVER THE INPUT: true; the input reads as it did. -/
def fnParityPairsSpec : ChangeSpec := { name := "fnParityPairs", fn := fun _ => fun
  | [d] => { results := [.lit (.bool true)], args := [d] }
  | _ => none }
def fnParityPairsRow : OpenClaim := { program := "ytefjhkcafcchlaa", sum := "680e10bc769f70d1608ec36e2731f93c65dafb76de01c82ddf8317c39654e54d", func := "loop.example/g00869/laws.FnParityPairs", spec := "fnParityPairs", recurses := true, apart := false }
def FnParityPairsSaid : Prop := fnParityPairsRow.holds Try.pinned (OpenSpec.ofChange fnParityPairsSpec)

/-- ITS FALSE NEIGHBOUR: 'it returns false'. Refute it at one input. -/
def fnParityPairsWrong : ChangeSpec := { name := "fnParityPairs", fn := fun _ => fun
  | [d] => { results := [.lit (.bool false)], args := [d] }
  | _ => none }
def FnParityPairsWrongFalsely : Prop := fnParityPairsRow.holds Try.pinned (OpenSpec.ofChange fnParityPairsWrong)

/-- 'laws.FnExactLassoWell': WHATEVER THE INPUT: true; the input reads as it did. -/
def fnExactLassoWellSpec : ChangeSpec := { name := "fnExactLassoWell", fn := fun _ => fun
  | [d1, d2, d3] => { results := [.lit (.bool true)], args := [d1, d2, d3] }
  | _ => none }
def fnExactLassoWellRow : OpenClaim := { program := "ytefjhkcafcchlaa", sum := "680e10bc769f70d1608ec36e2731f93c65dafb76de01c82ddf8317c39654e54d", func := "loop.example/g00869/laws.FnExactLassoWell", spec := "fnExactLassoWell", recurses := true, apart := false }
def FnExactLassoWellSaid : Prop := fnExactLassoWellRow.holds Try.pinned (OpenSpec.ofChange fnExactLassoWellSpec)

/-- ITS FALSE NEIGHBOUR: 'it returns false'. Refute it at one input. -/
def fnExactLassoWellWrong : ChangeSpec := { name := "fnExactLassoWell", fn := fun _ => fun
  | [d1, d2, d3] => { results := [.lit (.bool false)], args := [d1, d2, d3] }
  | _ => none }
def FnExactLassoWellWrongFalsely : Prop := fnExactLassoWellRow.holds Try.pinned (OpenSpec.ofChange fnExactLassoWellWrong)

/- THE SECOND FORM. 'bulk': how many values and letters a reading holds, each counted each time it is reached (what is shared counts as often as it is met; a slice's spare places count too). A statement '..UptoSaid' is the law's where the arguments, and the package variables that the reading takes, are together of bulk at most 1048576: NARROWER than '..Said'. Prove '..Said' where nothing that the law and all that it calls make is longer than what came in: it says more and counts as full. Else prove '..UptoSaid'. A law counts once. -/
mutual
def uptoBulk {H : Type} : DataW H → Nat
  | .lit (.string bytes) => bytes.length + 1
  | .lit _ => 1
  | .nil => 1
  | .ptr d => uptoBulk d + 1
  | .slice elems spare => uptoBulkAll elems + uptoBulkAll spare + 1
  | .agg parts => uptoBulkAll parts + 1
  | .iface _ d => uptoBulk d + 1
  | .map entries => uptoBulkEntries entries + 1
  | .held _ => 1
def uptoBulkAll {H : Type} : List (DataW H) → Nat
  | [] => 0
  | d :: r => uptoBulk d + uptoBulkAll r
def uptoBulkEntries {H : Type} : List (Lit × DataW H) → Nat
  | [] => 0
  | x :: r => uptoBulkEntry x + uptoBulkEntries r
def uptoBulkEntry {H : Type} : Lit × DataW H → Nat
  | (.string bytes, d) => bytes.length + uptoBulk d + 1
  | (_, d) => uptoBulk d + 1
 end
def uptoSmall : (H : Type) → List (DataW H) → Bool := fun _ ds => decide (uptoBulkAll ds ≤ 1048576)
def OpenSpec.upto (s : _root_.Go.ChangeSpec) : _root_.Go.OpenSpec := { _root_.Go.OpenSpec.ofChange s with cond := some uptoSmall }

/-- 'laws.FnReach', WHERE WHAT IT READS IS OF BULK AT MOST 1048576: true; the input reads as it did. -/
def fnReachUptoRow : OpenClaim := { program := "ytefjhkcafcchlaa", sum := "680e10bc769f70d1608ec36e2731f93c65dafb76de01c82ddf8317c39654e54d", func := "loop.example/g00869/laws.FnReach", spec := "fnReach", unfollowed := true, recurses := true, apart := false, narrowed := true }
def FnReachUptoSaid : Prop := fnReachUptoRow.holds Try.pinned (OpenSpec.upto fnReachSpec)

/-- 'laws.FnOften', WHERE WHAT IT READS IS OF BULK AT MOST 1048576: true; the input reads as it did. -/
def fnOftenUptoRow : OpenClaim := { program := "ytefjhkcafcchlaa", sum := "680e10bc769f70d1608ec36e2731f93c65dafb76de01c82ddf8317c39654e54d", func := "loop.example/g00869/laws.FnOften", spec := "fnOften", unfollowed := true, recurses := true, apart := false, narrowed := true }
def FnOftenUptoSaid : Prop := fnOftenUptoRow.holds Try.pinned (OpenSpec.upto fnOftenSpec)

/-- 'laws.FnJoinedGames', WHERE WHAT IT READS IS OF BULK AT MOST 1048576: true; the input reads as it did. -/
def fnJoinedGamesUptoRow : OpenClaim := { program := "ytefjhkcafcchlaa", sum := "680e10bc769f70d1608ec36e2731f93c65dafb76de01c82ddf8317c39654e54d", func := "loop.example/g00869/laws.FnJoinedGames", spec := "fnJoinedGames", recurses := true, apart := false, narrowed := true }
def FnJoinedGamesUptoSaid : Prop := fnJoinedGamesUptoRow.holds Try.pinned (OpenSpec.upto fnJoinedGamesSpec)

/-- 'laws.FnKinds', WHERE WHAT IT READS IS OF BULK AT MOST 1048576: true; the input reads as it did. -/
def fnKindsUptoRow : OpenClaim := { program := "ytefjhkcafcchlaa", sum := "680e10bc769f70d1608ec36e2731f93c65dafb76de01c82ddf8317c39654e54d", func := "loop.example/g00869/laws.FnKinds", spec := "fnKinds", recurses := true, apart := false, narrowed := true }
def FnKindsUptoSaid : Prop := fnKindsUptoRow.holds Try.pinned (OpenSpec.upto fnKindsSpec)

/-- 'laws.FnDiceGames', WHERE WHAT IT READS IS OF BULK AT MOST 1048576: true; the input reads as it did. -/
def fnDiceGamesUptoRow : OpenClaim := { program := "ytefjhkcafcchlaa", sum := "680e10bc769f70d1608ec36e2731f93c65dafb76de01c82ddf8317c39654e54d", func := "loop.example/g00869/laws.FnDiceGames", spec := "fnDiceGames", unfollowed := true, recurses := true, apart := false, narrowed := true }
def FnDiceGamesUptoSaid : Prop := fnDiceGamesUptoRow.holds Try.pinned (OpenSpec.upto fnDiceGamesSpec)

/-- 'laws.FnExactLadderGame', WHERE WHAT IT READS IS OF BULK AT MOST 1048576: true; the input reads as it did. -/
def fnExactLadderGameUptoRow : OpenClaim := { program := "ytefjhkcafcchlaa", sum := "680e10bc769f70d1608ec36e2731f93c65dafb76de01c82ddf8317c39654e54d", func := "loop.example/g00869/laws.FnExactLadderGame", spec := "fnExactLadderGame", recurses := true, apart := false, narrowed := true }
def FnExactLadderGameUptoSaid : Prop := fnExactLadderGameUptoRow.holds Try.pinned (OpenSpec.upto fnExactLadderGameSpec)

/-- 'laws.FnExactDiceGame', WHERE WHAT IT READS IS OF BULK AT MOST 1048576: true; the input reads as it did. -/
def fnExactDiceGameUptoRow : OpenClaim := { program := "ytefjhkcafcchlaa", sum := "680e10bc769f70d1608ec36e2731f93c65dafb76de01c82ddf8317c39654e54d", func := "loop.example/g00869/laws.FnExactDiceGame", spec := "fnExactDiceGame", unfollowed := true, recurses := true, apart := false, narrowed := true }
def FnExactDiceGameUptoSaid : Prop := fnExactDiceGameUptoRow.holds Try.pinned (OpenSpec.upto fnExactDiceGameSpec)

/-- 'laws.FnExactRenamedGame', WHERE WHAT IT READS IS OF BULK AT MOST 1048576: true; the input reads as it did. -/
def fnExactRenamedGameUptoRow : OpenClaim := { program := "ytefjhkcafcchlaa", sum := "680e10bc769f70d1608ec36e2731f93c65dafb76de01c82ddf8317c39654e54d", func := "loop.example/g00869/laws.FnExactRenamedGame", spec := "fnExactRenamedGame", recurses := true, apart := false, narrowed := true }
def FnExactRenamedGameUptoSaid : Prop := fnExactRenamedGameUptoRow.holds Try.pinned (OpenSpec.upto fnExactRenamedGameSpec)

/-- 'laws.FnExactRestOf', WHERE WHAT IT READS IS OF BULK AT MOST 1048576: true; the input reads as it did. -/
def fnExactRestOfUptoRow : OpenClaim := { program := "ytefjhkcafcchlaa", sum := "680e10bc769f70d1608ec36e2731f93c65dafb76de01c82ddf8317c39654e54d", func := "loop.example/g00869/laws.FnExactRestOf", spec := "fnExactRestOf", apart := false, narrowed := true }
def FnExactRestOfUptoSaid : Prop := fnExactRestOfUptoRow.holds Try.pinned (OpenSpec.upto fnExactRestOfSpec)

/-- 'laws.FnExactParityPairs', WHERE WHAT IT READS IS OF BULK AT MOST 1048576: true; the input reads as it did. -/
def fnExactParityPairsUptoRow : OpenClaim := { program := "ytefjhkcafcchlaa", sum := "680e10bc769f70d1608ec36e2731f93c65dafb76de01c82ddf8317c39654e54d", func := "loop.example/g00869/laws.FnExactParityPairs", spec := "fnExactParityPairs", recurses := true, apart := false, narrowed := true }
def FnExactParityPairsUptoSaid : Prop := fnExactParityPairsUptoRow.holds Try.pinned (OpenSpec.upto fnExactParityPairsSpec)

/-- 'laws.FnParityPairs', WHERE WHAT IT READS IS OF BULK AT MOST 1048576: true; the input reads as it did. -/
def fnParityPairsUptoRow : OpenClaim := { program := "ytefjhkcafcchlaa", sum := "680e10bc769f70d1608ec36e2731f93c65dafb76de01c82ddf8317c39654e54d", func := "loop.example/g00869/laws.FnParityPairs", spec := "fnParityPairs", recurses := true, apart := false, narrowed := true }
def FnParityPairsUptoSaid : Prop := fnParityPairsUptoRow.holds Try.pinned (OpenSpec.upto fnParityPairsSpec)

/-- 'laws.FnExactLassoWell', WHERE WHAT IT READS IS OF BULK AT MOST 1048576: true; the input reads as it did. -/
def fnExactLassoWellUptoRow : OpenClaim := { program := "ytefjhkcafcchlaa", sum := "680e10bc769f70d1608ec36e2731f93c65dafb76de01c82ddf8317c39654e54d", func := "loop.example/g00869/laws.FnExactLassoWell", spec := "fnExactLassoWell", recurses := true, apart := false, narrowed := true }
def FnExactLassoWellUptoSaid : Prop := fnExactLassoWellUptoRow.holds Try.pinned (OpenSpec.upto fnExactLassoWellSpec)

end Rows
end Go.Proofs.Ytefjhkcafcchlaa
