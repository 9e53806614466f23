/-
  No cell of these rows narrows 'for every input' (looked for: loops, veiled, ifaces, maps, wideKeys, modest, calm, conditions, laid).
  DERIVED. THE GIVEN ROWS OF THIS SEAT. 12 by the template 'for every input the law returns true; each argument reads behind the call as it read before'; 0 by the template 'total and deterministic' (their statements: YtmmkfljmminbdaaTotals.lean).
  GIVEN WITH THE SEED: the statements are not yours to turn. If you find one false, say at which input.
  Laid BY PROGRAM, IN A SANDBOX (cutbox-rows.mjs): the forced cells as the released guide's own fill.sh prints them over the translation d970c0f2047e2bda… (all of the seat's roots in one cut). By AI agents, Wed Nov 11 2026. No macro, syntax, notation, axiom, sorry.
-/
import Derived.Test.YtmmkfljmminbdaaChecked
import GoSem.Claim
import GoSem.ClaimJoined
import GoSem.ClaimMapViews
import Derived.JoinedTies
import Derived.KernelRfl
namespace Go.Proofs.Ytmmkfljmminbdaa
/- THE CELL 'sum', in the pinned program and in every row, IS THE sha256 OF THE DUMP (.gsa) THAT YtmmkfljmminbdaaProg.lean LOADS. Nothing in Lean hashes anything: it is a label: what it is worth is what the hold of that sum in a sandbox is worth. -/
noncomputable def Try.pinned : Pinned := { name := "ytmmkfljmminbdaa", sum := "d970c0f2047e2bda4a379c8be3a2fe7a0f5abed16b6c7bbae1f97119b53e74d4", checked := Try.checked }
namespace Rows
def none {H : Type} : Left H := { results := [], args := [] }

/-- 'laws.FnExactStayPlan': WHATEVER THE INPUT: true; the input reads as it did. -/
def fnExactStayPlanSpec : ChangeSpec := { name := "fnExactStayPlan", fn := fun _ => fun
  | [d1, d2, d3] => { results := [.lit (.bool true)], args := [d1, d2, d3] }
  | _ => none }
def fnExactStayPlanRow : OpenClaim := { program := "ytmmkfljmminbdaa", sum := "d970c0f2047e2bda4a379c8be3a2fe7a0f5abed16b6c7bbae1f97119b53e74d4", func := "loop.example/g00869/laws.FnExactStayPlan", spec := "fnExactStayPlan", unfollowed := true, recurses := true, apart := false }
def FnExactStayPlanSaid : Prop := fnExactStayPlanRow.holds Try.pinned (OpenSpec.ofChange fnExactStayPlanSpec)

/-- ITS FALSE NEIGHBOUR: 'it returns false'. Refute it at one input. -/
def fnExactStayPlanWrong : ChangeSpec := { name := "fnExactStayPlan", fn := fun _ => fun
  | [d1, d2, d3] => { results := [.lit (.bool false)], args := [d1, d2, d3] }
  | _ => none }
def FnExactStayPlanWrongFalsely : Prop := fnExactStayPlanRow.holds Try.pinned (OpenSpec.ofChange fnExactStayPlanWrong)

/-- 'laws.FnExactStaysLevels': WHATEVER THE INPUT: true; the input reads as it did. -/
def fnExactStaysLevelsSpec : ChangeSpec := { name := "fnExactStaysLevels", fn := fun _ => fun
  | [d1, d2, d3] => { results := [.lit (.bool true)], args := [d1, d2, d3] }
  | _ => none }
def fnExactStaysLevelsRow : OpenClaim := { program := "ytmmkfljmminbdaa", sum := "d970c0f2047e2bda4a379c8be3a2fe7a0f5abed16b6c7bbae1f97119b53e74d4", func := "loop.example/g00869/laws.FnExactStaysLevels", spec := "fnExactStaysLevels", unfollowed := true, recurses := true, apart := false }
def FnExactStaysLevelsSaid : Prop := fnExactStaysLevelsRow.holds Try.pinned (OpenSpec.ofChange fnExactStaysLevelsSpec)

/-- ITS FALSE NEIGHBOUR: 'it returns false'. Refute it at one input. -/
def fnExactStaysLevelsWrong : ChangeSpec := { name := "fnExactStaysLevels", fn := fun _ => fun
  | [d1, d2, d3] => { results := [.lit (.bool false)], args := [d1, d2, d3] }
  | _ => none }
def FnExactStaysLevelsWrongFalsely : Prop := fnExactStaysLevelsRow.holds Try.pinned (OpenSpec.ofChange fnExactStaysLevelsWrong)

/-- 'laws.FnExactJoinedGame': WHATEVER THE INPUT: true; the input reads as it did. -/
def fnExactJoinedGameSpec : ChangeSpec := { name := "fnExactJoinedGame", fn := fun _ => fun
  | [d1, d2] => { results := [.lit (.bool true)], args := [d1, d2] }
  | _ => none }
def fnExactJoinedGameRow : OpenClaim := { program := "ytmmkfljmminbdaa", sum := "d970c0f2047e2bda4a379c8be3a2fe7a0f5abed16b6c7bbae1f97119b53e74d4", func := "loop.example/g00869/laws.FnExactJoinedGame", spec := "fnExactJoinedGame", apart := false }
def FnExactJoinedGameSaid : Prop := fnExactJoinedGameRow.holds Try.pinned (OpenSpec.ofChange fnExactJoinedGameSpec)

/-- ITS FALSE NEIGHBOUR: 'it returns false'. Refute it at one input. -/
def fnExactJoinedGameWrong : ChangeSpec := { name := "fnExactJoinedGame", fn := fun _ => fun
  | [d1, d2] => { results := [.lit (.bool false)], args := [d1, d2] }
  | _ => none }
def FnExactJoinedGameWrongFalsely : Prop := fnExactJoinedGameRow.holds Try.pinned (OpenSpec.ofChange fnExactJoinedGameWrong)

/-- 'laws.FnExactRaisedGame': WHATEVER THE INPUT: true; the input reads as it did. -/
def fnExactRaisedGameSpec : ChangeSpec := { name := "fnExactRaisedGame", fn := fun _ => fun
  | [d1, d2] => { results := [.lit (.bool true)], args := [d1, d2] }
  | _ => none }
def fnExactRaisedGameRow : OpenClaim := { program := "ytmmkfljmminbdaa", sum := "d970c0f2047e2bda4a379c8be3a2fe7a0f5abed16b6c7bbae1f97119b53e74d4", func := "loop.example/g00869/laws.FnExactRaisedGame", spec := "fnExactRaisedGame", apart := false }
def FnExactRaisedGameSaid : Prop := fnExactRaisedGameRow.holds Try.pinned (OpenSpec.ofChange fnExactRaisedGameSpec)

/-- ITS FALSE NEIGHBOUR: 'it returns false'. Refute it at one input. -/
def fnExactRaisedGameWrong : ChangeSpec := { name := "fnExactRaisedGame", fn := fun _ => fun
  | [d1, d2] => { results := [.lit (.bool false)], args := [d1, d2] }
  | _ => none }
def FnExactRaisedGameWrongFalsely : Prop := fnExactRaisedGameRow.holds Try.pinned (OpenSpec.ofChange fnExactRaisedGameWrong)

/-- 'laws.FnExactStaysWon': WHATEVER THE INPUT: true; the input reads as it did. -/
def fnExactStaysWonSpec : ChangeSpec := { name := "fnExactStaysWon", fn := fun _ => fun
  | [d1, d2, d3] => { results := [.lit (.bool true)], args := [d1, d2, d3] }
  | _ => none }
def fnExactStaysWonRow : OpenClaim := { program := "ytmmkfljmminbdaa", sum := "d970c0f2047e2bda4a379c8be3a2fe7a0f5abed16b6c7bbae1f97119b53e74d4", func := "loop.example/g00869/laws.FnExactStaysWon", spec := "fnExactStaysWon", unfollowed := true, recurses := true, apart := false }
def FnExactStaysWonSaid : Prop := fnExactStaysWonRow.holds Try.pinned (OpenSpec.ofChange fnExactStaysWonSpec)

/-- ITS FALSE NEIGHBOUR: 'it returns false'. Refute it at one input. -/
def fnExactStaysWonWrong : ChangeSpec := { name := "fnExactStaysWon", fn := fun _ => fun
  | [d1, d2, d3] => { results := [.lit (.bool false)], args := [d1, d2, d3] }
  | _ => none }
def FnExactStaysWonWrongFalsely : Prop := fnExactStaysWonRow.holds Try.pinned (OpenSpec.ofChange fnExactStaysWonWrong)

/-- 'laws.FnLevels': WHATEVER THE INPUT: true; the input reads as it did. -/
def fnLevelsSpec : ChangeSpec := { name := "fnLevels", fn := fun _ => fun
  | [d] => { results := [.lit (.bool true)], args := [d] }
  | _ => none }
def fnLevelsRow : OpenClaim := { program := "ytmmkfljmminbdaa", sum := "d970c0f2047e2bda4a379c8be3a2fe7a0f5abed16b6c7bbae1f97119b53e74d4", func := "loop.example/g00869/laws.FnLevels", spec := "fnLevels", unfollowed := true, recurses := true, apart := false }
def FnLevelsSaid : Prop := fnLevelsRow.holds Try.pinned (OpenSpec.ofChange fnLevelsSpec)

/-- ITS FALSE NEIGHBOUR: 'it returns false'. Refute it at one input. -/
def fnLevelsWrong : ChangeSpec := { name := "fnLevels", fn := fun _ => fun
  | [d] => { results := [.lit (.bool false)], args := [d] }
  | _ => none }
def FnLevelsWrongFalsely : Prop := fnLevelsRow.holds Try.pinned (OpenSpec.ofChange fnLevelsWrong)

/-- 'laws.FnExactStaysPlan': WHATEVER THE INPUT: true; the input reads as it did. -/
def fnExactStaysPlanSpec : ChangeSpec := { name := "fnExactStaysPlan", fn := fun _ => fun
  | [d1, d2, d3] => { results := [.lit (.bool true)], args := [d1, d2, d3] }
  | _ => none }
def fnExactStaysPlanRow : OpenClaim := { program := "ytmmkfljmminbdaa", sum := "d970c0f2047e2bda4a379c8be3a2fe7a0f5abed16b6c7bbae1f97119b53e74d4", func := "loop.example/g00869/laws.FnExactStaysPlan", spec := "fnExactStaysPlan", unfollowed := true, recurses := true, apart := false }
def FnExactStaysPlanSaid : Prop := fnExactStaysPlanRow.holds Try.pinned (OpenSpec.ofChange fnExactStaysPlanSpec)

/-- ITS FALSE NEIGHBOUR: 'it returns false'. Refute it at one input. -/
def fnExactStaysPlanWrong : ChangeSpec := { name := "fnExactStaysPlan", fn := fun _ => fun
  | [d1, d2, d3] => { results := [.lit (.bool false)], args := [d1, d2, d3] }
  | _ => none }
def FnExactStaysPlanWrongFalsely : Prop := fnExactStaysPlanRow.holds Try.pinned (OpenSpec.ofChange fnExactStaysPlanWrong)

/-- 'laws.FnExactReachWon': WHATEVER THE INPUT: true; the input reads as it did. -/
def fnExactReachWonSpec : ChangeSpec := { name := "fnExactReachWon", fn := fun _ => fun
  | [d1, d2, d3] => { results := [.lit (.bool true)], args := [d1, d2, d3] }
  | _ => none }
def fnExactReachWonRow : OpenClaim := { program := "ytmmkfljmminbdaa", sum := "d970c0f2047e2bda4a379c8be3a2fe7a0f5abed16b6c7bbae1f97119b53e74d4", func := "loop.example/g00869/laws.FnExactReachWon", spec := "fnExactReachWon", apart := false }
def FnExactReachWonSaid : Prop := fnExactReachWonRow.holds Try.pinned (OpenSpec.ofChange fnExactReachWonSpec)

/-- ITS FALSE NEIGHBOUR: 'it returns false'. Refute it at one input. -/
def fnExactReachWonWrong : ChangeSpec := { name := "fnExactReachWon", fn := fun _ => fun
  | [d1, d2, d3] => { results := [.lit (.bool false)], args := [d1, d2, d3] }
  | _ => none }
def FnExactReachWonWrongFalsely : Prop := fnExactReachWonRow.holds Try.pinned (OpenSpec.ofChange fnExactReachWonWrong)

/-- 'laws.FnExactReachPlan': WHATEVER THE INPUT: true; the input reads as it did. -/
def fnExactReachPlanSpec : ChangeSpec := { name := "fnExactReachPlan", fn := fun _ => fun
  | [d1, d2, d3] => { results := [.lit (.bool true)], args := [d1, d2, d3] }
  | _ => none }
def fnExactReachPlanRow : OpenClaim := { program := "ytmmkfljmminbdaa", sum := "d970c0f2047e2bda4a379c8be3a2fe7a0f5abed16b6c7bbae1f97119b53e74d4", func := "loop.example/g00869/laws.FnExactReachPlan", spec := "fnExactReachPlan", apart := false }
def FnExactReachPlanSaid : Prop := fnExactReachPlanRow.holds Try.pinned (OpenSpec.ofChange fnExactReachPlanSpec)

/-- ITS FALSE NEIGHBOUR: 'it returns false'. Refute it at one input. -/
def fnExactReachPlanWrong : ChangeSpec := { name := "fnExactReachPlan", fn := fun _ => fun
  | [d1, d2, d3] => { results := [.lit (.bool false)], args := [d1, d2, d3] }
  | _ => none }
def FnExactReachPlanWrongFalsely : Prop := fnExactReachPlanRow.holds Try.pinned (OpenSpec.ofChange fnExactReachPlanWrong)

/-- 'laws.FnExactOftenWon': WHATEVER THE INPUT: true; the input reads as it did. -/
def fnExactOftenWonSpec : ChangeSpec := { name := "fnExactOftenWon", fn := fun _ => fun
  | [d1, d2, d3] => { results := [.lit (.bool true)], args := [d1, d2, d3] }
  | _ => none }
def fnExactOftenWonRow : OpenClaim := { program := "ytmmkfljmminbdaa", sum := "d970c0f2047e2bda4a379c8be3a2fe7a0f5abed16b6c7bbae1f97119b53e74d4", func := "loop.example/g00869/laws.FnExactOftenWon", spec := "fnExactOftenWon", unfollowed := true, recurses := true, apart := false }
def FnExactOftenWonSaid : Prop := fnExactOftenWonRow.holds Try.pinned (OpenSpec.ofChange fnExactOftenWonSpec)

/-- ITS FALSE NEIGHBOUR: 'it returns false'. Refute it at one input. -/
def fnExactOftenWonWrong : ChangeSpec := { name := "fnExactOftenWon", fn := fun _ => fun
  | [d1, d2, d3] => { results := [.lit (.bool false)], args := [d1, d2, d3] }
  | _ => none }
def FnExactOftenWonWrongFalsely : Prop := fnExactOftenWonRow.holds Try.pinned (OpenSpec.ofChange fnExactOftenWonWrong)

/-- 'laws.FnReach': WHATEVER THE INPUT: true; the input reads as it did. -/
def fnReachSpec : ChangeSpec := { name := "fnReach", fn := fun _ => fun
  | [d] => { results := [.lit (.bool true)], args := [d] }
  | _ => none }
def fnReachRow : OpenClaim := { program := "ytmmkfljmminbdaa", sum := "d970c0f2047e2bda4a379c8be3a2fe7a0f5abed16b6c7bbae1f97119b53e74d4", func := "loop.example/g00869/laws.FnReach", spec := "fnReach", unfollowed := true, recurses := true, apart := false }
def FnReachSaid : Prop := fnReachRow.holds Try.pinned (OpenSpec.ofChange fnReachSpec)

/-- ITS FALSE NEIGHBOUR: 'it returns false'. Refute it at one input. -/
def fnReachWrong : ChangeSpec := { name := "fnReach", fn := fun _ => fun
  | [d] => { results := [.lit (.bool false)], args := [d] }
  | _ => none }
def FnReachWrongFalsely : Prop := fnReachRow.holds Try.pinned (OpenSpec.ofChange fnReachWrong)

/-- 'laws.FnExactOftenPlan': WHATEVER THE INPUT: true; the input reads as it did. -/
def fnExactOftenPlanSpec : ChangeSpec := { name := "fnExactOftenPlan", fn := fun _ => fun
  | [d1, d2, d3] => { results := [.lit (.bool true)], args := [d1, d2, d3] }
  | _ => none }
def fnExactOftenPlanRow : OpenClaim := { program := "ytmmkfljmminbdaa", sum := "d970c0f2047e2bda4a379c8be3a2fe7a0f5abed16b6c7bbae1f97119b53e74d4", func := "loop.example/g00869/laws.FnExactOftenPlan", spec := "fnExactOftenPlan", unfollowed := true, recurses := true, apart := false }
def FnExactOftenPlanSaid : Prop := fnExactOftenPlanRow.holds Try.pinned (OpenSpec.ofChange fnExactOftenPlanSpec)

/-- ITS FALSE NEIGHBOUR: 'it returns false'. Refute it at one input. -/
def fnExactOftenPlanWrong : ChangeSpec := { name := "fnExactOftenPlan", fn := fun _ => fun
  | [d1, d2, d3] => { results := [.lit (.bool false)], args := [d1, d2, d3] }
  | _ => none }
def FnExactOftenPlanWrongFalsely : Prop := fnExactOftenPlanRow.holds Try.pinned (OpenSpec.ofChange fnExactOftenPlanWrong)

/- THE SECOND FORM. 'bulk': how many values and letters a reading holds, each counted each time it is reached (what is shared counts as often as it is met; a slice's spare places count too). A statement '..UptoSaid' is the law's where the arguments, and the package variables that the reading takes, are together of bulk at most 1048576: NARROWER than '..Said'. Prove '..Said' where nothing that the law and all that it calls make is longer than what came in: it says more and counts as full. Else prove '..UptoSaid'. A law counts once. -/
mutual
def uptoBulk {H : Type} : DataW H → Nat
  | .lit (.string bytes) => bytes.length + 1
  | .lit _ => 1
  | .nil => 1
  | .ptr d => uptoBulk d + 1
  | .slice elems spare => uptoBulkAll elems + uptoBulkAll spare + 1
  | .agg parts => uptoBulkAll parts + 1
  | .iface _ d => uptoBulk d + 1
  | .map entries => uptoBulkEntries entries + 1
  | .held _ => 1
def uptoBulkAll {H : Type} : List (DataW H) → Nat
  | [] => 0
  | d :: r => uptoBulk d + uptoBulkAll r
def uptoBulkEntries {H : Type} : List (Lit × DataW H) → Nat
  | [] => 0
  | x :: r => uptoBulkEntry x + uptoBulkEntries r
def uptoBulkEntry {H : Type} : Lit × DataW H → Nat
  | (.string bytes, d) => bytes.length + uptoBulk d + 1
  | (_, d) => uptoBulk d + 1
 end
def uptoSmall : (H : Type) → List (DataW H) → Bool := fun _ ds => decide (uptoBulkAll ds ≤ 1048576)
def OpenSpec.upto (s : _root_.Go.ChangeSpec) : _root_.Go.OpenSpec := { _root_.Go.OpenSpec.ofChange s with cond := some uptoSmall }

/-- 'laws.FnExactStayPlan', WHERE WHAT IT READS IS OF BULK AT MOST 1048576: true; the input reads as it did. -/
def fnExactStayPlanUptoRow : OpenClaim := { program := "ytmmkfljmminbdaa", sum := "d970c0f2047e2bda4a379c8be3a2fe7a0f5abed16b6c7bbae1f97119b53e74d4", func := "loop.example/g00869/laws.FnExactStayPlan", spec := "fnExactStayPlan", unfollowed := true, recurses := true, apart := false, narrowed := true }
def FnExactStayPlanUptoSaid : Prop := fnExactStayPlanUptoRow.holds Try.pinned (OpenSpec.upto fnExactStayPlanSpec)

/-- 'laws.FnExactStaysLevels', WHERE WHAT IT READS IS OF BULK AT MOST 1048576: true; the input reads as it did. -/
def fnExactStaysLevelsUptoRow : OpenClaim := { program := "ytmmkfljmminbdaa", sum := "d970c0f2047e2bda4a379c8be3a2fe7a0f5abed16b6c7bbae1f97119b53e74d4", func := "loop.example/g00869/laws.FnExactStaysLevels", spec := "fnExactStaysLevels", unfollowed := true, recurses := true, apart := false, narrowed := true }
def FnExactStaysLevelsUptoSaid : Prop := fnExactStaysLevelsUptoRow.holds Try.pinned (OpenSpec.upto fnExactStaysLevelsSpec)

/-- 'laws.FnExactJoinedGame', WHERE WHAT IT READS IS OF BULK AT MOST 1048576: true; the input reads as it did. -/
def fnExactJoinedGameUptoRow : OpenClaim := { program := "ytmmkfljmminbdaa", sum := "d970c0f2047e2bda4a379c8be3a2fe7a0f5abed16b6c7bbae1f97119b53e74d4", func := "loop.example/g00869/laws.FnExactJoinedGame", spec := "fnExactJoinedGame", apart := false, narrowed := true }
def FnExactJoinedGameUptoSaid : Prop := fnExactJoinedGameUptoRow.holds Try.pinned (OpenSpec.upto fnExactJoinedGameSpec)

/-- 'laws.FnExactRaisedGame', WHERE WHAT IT READS IS OF BULK AT MOST 1048576: true; the input reads as it did. -/
def fnExactRaisedGameUptoRow : OpenClaim := { program := "ytmmkfljmminbdaa", sum := "d970c0f2047e2bda4a379c8be3a2fe7a0f5abed16b6c7bbae1f97119b53e74d4", func := "loop.example/g00869/laws.FnExactRaisedGame", spec := "fnExactRaisedGame", apart := false, narrowed := true }
def FnExactRaisedGameUptoSaid : Prop := fnExactRaisedGameUptoRow.holds Try.pinned (OpenSpec.upto fnExactRaisedGameSpec)

/-- 'laws.FnExactStaysWon', WHERE WHAT IT READS IS OF BULK AT MOST 1048576: true; the input reads as it did. -/
def fnExactStaysWonUptoRow : OpenClaim := { program := "ytmmkfljmminbdaa", sum := "d970c0f2047e2bda4a379c8be3a2fe7a0f5abed16b6c7bbae1f97119b53e74d4", func := "loop.example/g00869/laws.FnExactStaysWon", spec := "fnExactStaysWon", unfollowed := true, recurses := true, apart := false, narrowed := true }
def FnExactStaysWonUptoSaid : Prop := fnExactStaysWonUptoRow.holds Try.pinned (OpenSpec.upto fnExactStaysWonSpec)

/-- 'laws.FnLevels', WHERE WHAT IT READS IS OF BULK AT MOST 1048576: true; the input reads as it did. -/
def fnLevelsUptoRow : OpenClaim := { program := "ytmmkfljmminbdaa", sum := "d970c0f2047e2bda4a379c8be3a2fe7a0f5abed16b6c7bbae1f97119b53e74d4", func := "loop.example/g00869/laws.FnLevels", spec := "fnLevels", unfollowed := true, recurses := true, apart := false, narrowed := true }
def FnLevelsUptoSaid : Prop := fnLevelsUptoRow.holds Try.pinned (OpenSpec.upto fnLevelsSpec)

/-- 'laws.FnExactStaysPlan', WHERE WHAT IT READS IS OF BULK AT MOST 1048576: true; the input reads as it did. -/
def fnExactStaysPlanUptoRow : OpenClaim := { program := "ytmmkfljmminbdaa", sum := "d970c0f2047e2bda4a379c8be3a2fe7a0f5abed16b6c7bbae1f97119b53e74d4", func := "loop.example/g00869/laws.FnExactStaysPlan", spec := "fnExactStaysPlan", unfollowed := true, recurses := true, apart := false, narrowed := true }
def FnExactStaysPlanUptoSaid : Prop := fnExactStaysPlanUptoRow.holds Try.pinned (OpenSpec.upto fnExactStaysPlanSpec)

/-- 'laws.FnExactReachWon', WHERE WHAT IT READS IS OF BULK AT MOST 1048576: true; the input reads as it did. -/
def fnExactReachWonUptoRow : OpenClaim := { program := "ytmmkfljmminbdaa", sum := "d970c0f2047e2bda4a379c8be3a2fe7a0f5abed16b6c7bbae1f97119b53e74d4", func := "loop.example/g00869/laws.FnExactReachWon", spec := "fnExactReachWon", apart := false, narrowed := true }
def FnExactReachWonUptoSaid : Prop := fnExactReachWonUptoRow.holds Try.pinned (OpenSpec.upto fnExactReachWonSpec)

/-- 'laws.FnExactReachPlan', WHERE WHAT IT READS IS OF BULK AT MOST 1048576: true; the input reads as it did. -/
def fnExactReachPlanUptoRow : OpenClaim := { program := "ytmmkfljmminbdaa", sum := "d970c0f2047e2bda4a379c8be3a2fe7a0f5abed16b6c7bbae1f97119b53e74d4", func := "loop.example/g00869/laws.FnExactReachPlan", spec := "fnExactReachPlan", apart := false, narrowed := true }
def FnExactReachPlanUptoSaid : Prop := fnExactReachPlanUptoRow.holds Try.pinned (OpenSpec.upto fnExactReachPlanSpec)

/-- 'laws.FnExactOftenWon', WHERE WHAT IT READS IS OF BULK AT MOST 1048576: true; the input reads as it did. -/
def fnExactOftenWonUptoRow : OpenClaim := { program := "ytmmkfljmminbdaa", sum := "d970c0f2047e2bda4a379c8be3a2fe7a0f5abed16b6c7bbae1f97119b53e74d4", func := "loop.example/g00869/laws.FnExactOftenWon", spec := "fnExactOftenWon", unfollowed := true, recurses := true, apart := false, narrowed := true }
def FnExactOftenWonUptoSaid : Prop := fnExactOftenWonUptoRow.holds Try.pinned (OpenSpec.upto fnExactOftenWonSpec)

/-- 'laws.FnReach', WHERE WHAT IT READS IS OF BULK AT MOST 1048576: true; the input reads as it did. -/
def fnReachUptoRow : OpenClaim := { program := "ytmmkfljmminbdaa", sum := "d970c0f2047e2bda4a379c8be3a2fe7a0f5abed16b6c7bbae1f97119b53e74d4", func := "loop.example/g00869/laws.FnReach", spec := "fnReach", unfollowed := true, recurses := true, apart := false, narrowed := true }
def FnReachUptoSaid : Prop := fnReachUptoRow.holds Try.pinned (OpenSpec.upto fnReachSpec)

/-- 'laws.FnExactOftenPlan', WHERE WHAT IT READS IS OF BULK AT MOST 1048576: true; the input reads as it did. -/
def fnExactOftenPlanUptoRow : OpenClaim := { program := "ytmmkfljmminbdaa", sum := "d970c0f2047e2bda4a379c8be3a2fe7a0f5abed16b6c7bbae1f97119b53e74d4", func := "loop.example/g00869/laws.FnExactOftenPlan", spec := "fnExactOftenPlan", unfollowed := true, recurses := true, apart := false, narrowed := true }
def FnExactOftenPlanUptoSaid : Prop := fnExactOftenPlanUptoRow.holds Try.pinned (OpenSpec.upto fnExactOftenPlanSpec)

end Rows
end Go.Proofs.Ytmmkfljmminbdaa
