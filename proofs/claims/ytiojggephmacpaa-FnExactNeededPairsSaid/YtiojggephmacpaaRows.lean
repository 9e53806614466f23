/-
  No cell of these rows narrows 'for every input' (looked for: loops, veiled, ifaces, maps, wideKeys, modest, calm, conditions, laid).
  DERIVED. THE GIVEN ROWS OF THIS SEAT. 12 by the template 'for every input the law returns true; each argument reads behind the call as it read before'; 0 by the template 'total and deterministic' (their statements: YtiojggephmacpaaTotals.lean).
  GIVEN WITH THE SEED: the statements are not yours to turn. If you find one false, say at which input.
  Laid BY PROGRAM, IN A SANDBOX (cutbox-rows.mjs): the forced cells as the released guide's own fill.sh prints them over the translation f4ac50a7b9f9bb38… (all of the seat's roots in one cut). By AI agents, Wed Nov 11 2026. No macro, syntax, notation, axiom, sorry.
-/
import Derived.Test.YtiojggephmacpaaChecked
import GoSem.Claim
import GoSem.ClaimJoined
import GoSem.ClaimMapViews
import Derived.JoinedTies
import Derived.KernelRfl
namespace Go.Proofs.Ytiojggephmacpaa
/- THE CELL 'sum', in the pinned program and in every row, IS THE sha256 OF THE DUMP (.gsa) THAT YtiojggephmacpaaProg.lean LOADS. Nothing in Lean hashes anything: it is a label: what it is worth is what the hold of that sum in a sandbox is worth. -/
noncomputable def Try.pinned : Pinned := { name := "ytiojggephmacpaa", sum := "f4ac50a7b9f9bb38cd700af134e6fd5127dcbb918919b10bde9bc75ba6133535", checked := Try.checked }
namespace Rows
def none {H : Type} : Left H := { results := [], args := [] }

/-- 'laws.FnExactPlacesLasso': WHATEVER THE INPUT: true; the input reads as it did. -/
def fnExactPlacesLassoSpec : ChangeSpec := { name := "fnExactPlacesLasso", fn := fun _ => fun
  | [d1, d2] => { results := [.lit (.bool true)], args := [d1, d2] }
  | _ => none }
def fnExactPlacesLassoRow : OpenClaim := { program := "ytiojggephmacpaa", sum := "f4ac50a7b9f9bb38cd700af134e6fd5127dcbb918919b10bde9bc75ba6133535", func := "loop.example/g00869/laws.FnExactPlacesLasso", spec := "fnExactPlacesLasso", apart := false }
def FnExactPlacesLassoSaid : Prop := fnExactPlacesLassoRow.holds Try.pinned (OpenSpec.ofChange fnExactPlacesLassoSpec)

/-- ITS FALSE NEIGHBOUR: 'it returns false'. Refute it at one input. -/
def fnExactPlacesLassoWrong : ChangeSpec := { name := "fnExactPlacesLasso", fn := fun _ => fun
  | [d1, d2] => { results := [.lit (.bool false)], args := [d1, d2] }
  | _ => none }
def FnExactPlacesLassoWrongFalsely : Prop := fnExactPlacesLassoRow.holds Try.pinned (OpenSpec.ofChange fnExactPlacesLassoWrong)

/-- 'laws.FnPairsNeeded': WHATEVER THE INPUT: true; the input reads as it did. -/
def fnPairsNeededSpec : ChangeSpec := { name := "fnPairsNeeded", fn := fun _ => fun
  | [d] => { results := [.lit (.bool true)], args := [d] }
  | _ => none }
def fnPairsNeededRow : OpenClaim := { program := "ytiojggephmacpaa", sum := "f4ac50a7b9f9bb38cd700af134e6fd5127dcbb918919b10bde9bc75ba6133535", func := "loop.example/g00869/laws.FnPairsNeeded", spec := "fnPairsNeeded", unfollowed := true, recurses := true, apart := false }
def FnPairsNeededSaid : Prop := fnPairsNeededRow.holds Try.pinned (OpenSpec.ofChange fnPairsNeededSpec)

/-- ITS FALSE NEIGHBOUR: 'it returns false'. Refute it at one input. -/
def fnPairsNeededWrong : ChangeSpec := { name := "fnPairsNeeded", fn := fun _ => fun
  | [d] => { results := [.lit (.bool false)], args := [d] }
  | _ => none }
def FnPairsNeededWrongFalsely : Prop := fnPairsNeededRow.holds Try.pinned (OpenSpec.ofChange fnPairsNeededWrong)

/-- 'laws.FnExactPairsOn': WHATEVER THE INPUT: true; the input reads as it did. -/
def fnExactPairsOnSpec : ChangeSpec := { name := "fnExactPairsOn", fn := fun _ => fun
  | [d1, d2] => { results := [.lit (.bool true)], args := [d1, d2] }
  | _ => none }
def fnExactPairsOnRow : OpenClaim := { program := "ytiojggephmacpaa", sum := "f4ac50a7b9f9bb38cd700af134e6fd5127dcbb918919b10bde9bc75ba6133535", func := "loop.example/g00869/laws.FnExactPairsOn", spec := "fnExactPairsOn", apart := false }
def FnExactPairsOnSaid : Prop := fnExactPairsOnRow.holds Try.pinned (OpenSpec.ofChange fnExactPairsOnSpec)

/-- ITS FALSE NEIGHBOUR: 'it returns false'. Refute it at one input. -/
def fnExactPairsOnWrong : ChangeSpec := { name := "fnExactPairsOn", fn := fun _ => fun
  | [d1, d2] => { results := [.lit (.bool false)], args := [d1, d2] }
  | _ => none }
def FnExactPairsOnWrongFalsely : Prop := fnExactPairsOnRow.holds Try.pinned (OpenSpec.ofChange fnExactPairsOnWrong)

/-- 'laws.FnExactOftenGame': WHATEVER THE INPUT: true; the input reads as it did. -/
def fnExactOftenGameSpec : ChangeSpec := { name := "fnExactOftenGame", fn := fun _ => fun
  | [d1, d2] => { results := [.lit (.bool true)], args := [d1, d2] }
  | _ => none }
def fnExactOftenGameRow : OpenClaim := { program := "ytiojggephmacpaa", sum := "f4ac50a7b9f9bb38cd700af134e6fd5127dcbb918919b10bde9bc75ba6133535", func := "loop.example/g00869/laws.FnExactOftenGame", spec := "fnExactOftenGame", apart := false }
def FnExactOftenGameSaid : Prop := fnExactOftenGameRow.holds Try.pinned (OpenSpec.ofChange fnExactOftenGameSpec)

/-- ITS FALSE NEIGHBOUR: 'it returns false'. Refute it at one input. -/
def fnExactOftenGameWrong : ChangeSpec := { name := "fnExactOftenGame", fn := fun _ => fun
  | [d1, d2] => { results := [.lit (.bool false)], args := [d1, d2] }
  | _ => none }
def FnExactOftenGameWrongFalsely : Prop := fnExactOftenGameRow.holds Try.pinned (OpenSpec.ofChange fnExactOftenGameWrong)

/-- 'laws.FnExactStaysGame': WHATEVER THE INPUT: true; the input reads as it did. -/
def fnExactStaysGameSpec : ChangeSpec := { name := "fnExactStaysGame", fn := fun _ => fun
  | [d1, d2] => { results := [.lit (.bool true)], args := [d1, d2] }
  | _ => none }
def fnExactStaysGameRow : OpenClaim := { program := "ytiojggephmacpaa", sum := "f4ac50a7b9f9bb38cd700af134e6fd5127dcbb918919b10bde9bc75ba6133535", func := "loop.example/g00869/laws.FnExactStaysGame", spec := "fnExactStaysGame", apart := false }
def FnExactStaysGameSaid : Prop := fnExactStaysGameRow.holds Try.pinned (OpenSpec.ofChange fnExactStaysGameSpec)

/-- ITS FALSE NEIGHBOUR: 'it returns false'. Refute it at one input. -/
def fnExactStaysGameWrong : ChangeSpec := { name := "fnExactStaysGame", fn := fun _ => fun
  | [d1, d2] => { results := [.lit (.bool false)], args := [d1, d2] }
  | _ => none }
def FnExactStaysGameWrongFalsely : Prop := fnExactStaysGameRow.holds Try.pinned (OpenSpec.ofChange fnExactStaysGameWrong)

/-- 'laws.FnExactNeededPairs': WHATEVER THE INPUT: true; the input reads as it did. -/
def fnExactNeededPairsSpec : ChangeSpec := { name := "fnExactNeededPairs", fn := fun _ => fun
  | [d] => { results := [.lit (.bool true)], args := [d] }
  | _ => none }
def fnExactNeededPairsRow : OpenClaim := { program := "ytiojggephmacpaa", sum := "f4ac50a7b9f9bb38cd700af134e6fd5127dcbb918919b10bde9bc75ba6133535", func := "loop.example/g00869/laws.FnExactNeededPairs", spec := "fnExactNeededPairs", unfollowed := true, recurses := true, apart := false }
def FnExactNeededPairsSaid : Prop := fnExactNeededPairsRow.holds Try.pinned (OpenSpec.ofChange fnExactNeededPairsSpec)

/-- ITS FALSE NEIGHBOUR: 'it returns false'. Refute it at one input. -/
def fnExactNeededPairsWrong : ChangeSpec := { name := "fnExactNeededPairs", fn := fun _ => fun
  | [d] => { results := [.lit (.bool false)], args := [d] }
  | _ => none }
def FnExactNeededPairsWrongFalsely : Prop := fnExactNeededPairsRow.holds Try.pinned (OpenSpec.ofChange fnExactNeededPairsWrong)

/-- 'laws.FnExactStaysLevels': WHATEVER THE INPUT: true; the input reads as it did. -/
def fnExactStaysLevelsSpec : ChangeSpec := { name := "fnExactStaysLevels", fn := fun _ => fun
  | [d1, d2, d3] => { results := [.lit (.bool true)], args := [d1, d2, d3] }
  | _ => none }
def fnExactStaysLevelsRow : OpenClaim := { program := "ytiojggephmacpaa", sum := "f4ac50a7b9f9bb38cd700af134e6fd5127dcbb918919b10bde9bc75ba6133535", func := "loop.example/g00869/laws.FnExactStaysLevels", spec := "fnExactStaysLevels", unfollowed := true, recurses := true, apart := false }
def FnExactStaysLevelsSaid : Prop := fnExactStaysLevelsRow.holds Try.pinned (OpenSpec.ofChange fnExactStaysLevelsSpec)

/-- ITS FALSE NEIGHBOUR: 'it returns false'. Refute it at one input. -/
def fnExactStaysLevelsWrong : ChangeSpec := { name := "fnExactStaysLevels", fn := fun _ => fun
  | [d1, d2, d3] => { results := [.lit (.bool false)], args := [d1, d2, d3] }
  | _ => none }
def FnExactStaysLevelsWrongFalsely : Prop := fnExactStaysLevelsRow.holds Try.pinned (OpenSpec.ofChange fnExactStaysLevelsWrong)

/-- 'laws.FnExactJoinedGame': WHATEVER THE INPUT: true; the input reads as it did. -/
def fnExactJoinedGameSpec : ChangeSpec := { name := "fnExactJoinedGame", fn := fun _ => fun
  | [d1, d2] => { results := [.lit (.bool true)], args := [d1, d2] }
  | _ => none }
def fnExactJoinedGameRow : OpenClaim := { program := "ytiojggephmacpaa", sum := "f4ac50a7b9f9bb38cd700af134e6fd5127dcbb918919b10bde9bc75ba6133535", func := "loop.example/g00869/laws.FnExactJoinedGame", spec := "fnExactJoinedGame", apart := false }
def FnExactJoinedGameSaid : Prop := fnExactJoinedGameRow.holds Try.pinned (OpenSpec.ofChange fnExactJoinedGameSpec)

/-- ITS FALSE NEIGHBOUR: 'it returns false'. Refute it at one input. -/
def fnExactJoinedGameWrong : ChangeSpec := { name := "fnExactJoinedGame", fn := fun _ => fun
  | [d1, d2] => { results := [.lit (.bool false)], args := [d1, d2] }
  | _ => none }
def FnExactJoinedGameWrongFalsely : Prop := fnExactJoinedGameRow.holds Try.pinned (OpenSpec.ofChange fnExactJoinedGameWrong)

/-- 'laws.FnExactRaisedGame': WHATEVER THE INPUT: true; the input reads as it did. -/
def fnExactRaisedGameSpec : ChangeSpec := { name := "fnExactRaisedGame", fn := fun _ => fun
  | [d1, d2] => { results := [.lit (.bool true)], args := [d1, d2] }
  | _ => none }
def fnExactRaisedGameRow : OpenClaim := { program := "ytiojggephmacpaa", sum := "f4ac50a7b9f9bb38cd700af134e6fd5127dcbb918919b10bde9bc75ba6133535", func := "loop.example/g00869/laws.FnExactRaisedGame", spec := "fnExactRaisedGame", apart := false }
def FnExactRaisedGameSaid : Prop := fnExactRaisedGameRow.holds Try.pinned (OpenSpec.ofChange fnExactRaisedGameSpec)

/-- ITS FALSE NEIGHBOUR: 'it returns false'. Refute it at one input. -/
def fnExactRaisedGameWrong : ChangeSpec := { name := "fnExactRaisedGame", fn := fun _ => fun
  | [d1, d2] => { results := [.lit (.bool false)], args := [d1, d2] }
  | _ => none }
def FnExactRaisedGameWrongFalsely : Prop := fnExactRaisedGameRow.holds Try.pinned (OpenSpec.ofChange fnExactRaisedGameWrong)

/-- 'laws.FnExactStaysWon': WHATEVER THE INPUT: true; the input reads as it did. -/
def fnExactStaysWonSpec : ChangeSpec := { name := "fnExactStaysWon", fn := fun _ => fun
  | [d1, d2, d3] => { results := [.lit (.bool true)], args := [d1, d2, d3] }
  | _ => none }
def fnExactStaysWonRow : OpenClaim := { program := "ytiojggephmacpaa", sum := "f4ac50a7b9f9bb38cd700af134e6fd5127dcbb918919b10bde9bc75ba6133535", func := "loop.example/g00869/laws.FnExactStaysWon", spec := "fnExactStaysWon", unfollowed := true, recurses := true, apart := false }
def FnExactStaysWonSaid : Prop := fnExactStaysWonRow.holds Try.pinned (OpenSpec.ofChange fnExactStaysWonSpec)

/-- ITS FALSE NEIGHBOUR: 'it returns false'. Refute it at one input. -/
def fnExactStaysWonWrong : ChangeSpec := { name := "fnExactStaysWon", fn := fun _ => fun
  | [d1, d2, d3] => { results := [.lit (.bool false)], args := [d1, d2, d3] }
  | _ => none }
def FnExactStaysWonWrongFalsely : Prop := fnExactStaysWonRow.holds Try.pinned (OpenSpec.ofChange fnExactStaysWonWrong)

/-- 'laws.FnLevels': WHATEVER THE INPUT: true; the input reads as it did. -/
def fnLevelsSpec : ChangeSpec := { name := "fnLevels", fn := fun _ => fun
  | [d] => { results := [.lit (.bool true)], args := [d] }
  | _ => none }
def fnLevelsRow : OpenClaim := { program := "ytiojggephmacpaa", sum := "f4ac50a7b9f9bb38cd700af134e6fd5127dcbb918919b10bde9bc75ba6133535", func := "loop.example/g00869/laws.FnLevels", spec := "fnLevels", unfollowed := true, recurses := true, apart := false }
def FnLevelsSaid : Prop := fnLevelsRow.holds Try.pinned (OpenSpec.ofChange fnLevelsSpec)

/-- ITS FALSE NEIGHBOUR: 'it returns false'. Refute it at one input. -/
def fnLevelsWrong : ChangeSpec := { name := "fnLevels", fn := fun _ => fun
  | [d] => { results := [.lit (.bool false)], args := [d] }
  | _ => none }
def FnLevelsWrongFalsely : Prop := fnLevelsRow.holds Try.pinned (OpenSpec.ofChange fnLevelsWrong)

/-- 'laws.FnExactStaysPlan': WHATEVER THE INPUT: true; the input reads as it did. -/
def fnExactStaysPlanSpec : ChangeSpec := { name := "fnExactStaysPlan", fn := fun _ => fun
  | [d1, d2, d3] => { results := [.lit (.bool true)], args := [d1, d2, d3] }
  | _ => none }
def fnExactStaysPlanRow : OpenClaim := { program := "ytiojggephmacpaa", sum := "f4ac50a7b9f9bb38cd700af134e6fd5127dcbb918919b10bde9bc75ba6133535", func := "loop.example/g00869/laws.FnExactStaysPlan", spec := "fnExactStaysPlan", unfollowed := true, recurses := true, apart := false }
def FnExactStaysPlanSaid : Prop := fnExactStaysPlanRow.holds Try.pinned (OpenSpec.ofChange fnExactStaysPlanSpec)

/-- ITS FALSE NEIGHBOUR: 'it returns false'. Refute it at one input. -/
def fnExactStaysPlanWrong : ChangeSpec := { name := "fnExactStaysPlan", fn := fun _ => fun
  | [d1, d2, d3] => { results := [.lit (.bool false)], args := [d1, d2, d3] }
  | _ => none }
def FnExactStaysPlanWrongFalsely : Prop := fnExactStaysPlanRow.holds Try.pinned (OpenSpec.ofChange fnExactStaysPlanWrong)

/- THE SECOND FORM. 'bulk': how many values and letters a reading holds, each counted each time it is reached (what is shared counts as often as it is met; a slice's spare places count too). A statement '..UptoSaid' is the law's where the arguments, and the package variables that the reading takes, are together of bulk at most 1048576: NARROWER than '..Said'. Prove '..Said' where nothing that the law and all that it calls make is longer than what came in: it says more and counts as full. Else prove '..UptoSaid'. A law counts once. -/
mutual
def uptoBulk {H : Type} : DataW H → Nat
  | .lit (.string bytes) => bytes.length + 1
  | .lit _ => 1
  | .nil => 1
  | .ptr d => uptoBulk d + 1
  | .slice elems spare => uptoBulkAll elems + uptoBulkAll spare + 1
  | .agg parts => uptoBulkAll parts + 1
  | .iface _ d => uptoBulk d + 1
  | .map entries => uptoBulkEntries entries + 1
  | .held _ => 1
def uptoBulkAll {H : Type} : List (DataW H) → Nat
  | [] => 0
  | d :: r => uptoBulk d + uptoBulkAll r
def uptoBulkEntries {H : Type} : List (Lit × DataW H) → Nat
  | [] => 0
  | x :: r => uptoBulkEntry x + uptoBulkEntries r
def uptoBulkEntry {H : Type} : Lit × DataW H → Nat
  | (.string bytes, d) => bytes.length + uptoBulk d + 1
  | (_, d) => uptoBulk d + 1
 end
def uptoSmall : (H : Type) → List (DataW H) → Bool := fun _ ds => decide (uptoBulkAll ds ≤ 1048576)
def OpenSpec.upto (s : _root_.Go.ChangeSpec) : _root_.Go.OpenSpec := { _root_.Go.OpenSpec.ofChange s with cond := some uptoSmall }

/-- 'laws.FnExactPlacesLasso', WHERE WHAT IT READS IS OF BULK AT MOST 1048576: true; the input reads as it did. -/
def fnExactPlacesLassoUptoRow : OpenClaim := { program := "ytiojggephmacpaa", sum := "f4ac50a7b9f9bb38cd700af134e6fd5127dcbb918919b10bde9bc75ba6133535", func := "loop.example/g00869/laws.FnExactPlacesLasso", spec := "fnExactPlacesLasso", apart := false, narrowed := true }
def FnExactPlacesLassoUptoSaid : Prop := fnExactPlacesLassoUptoRow.holds Try.pinned (OpenSpec.upto fnExactPlacesLassoSpec)

/-- 'laws.FnPairsNeeded', WHERE WHAT IT READS IS OF BULK AT MOST 1048576: true; the input reads as it did. -/
def fnPairsNeededUptoRow : OpenClaim := { program := "ytiojggephmacpaa", sum := "f4ac50a7b9f9bb38cd700af134e6fd5127dcbb918919b10bde9bc75ba6133535", func := "loop.example/g00869/laws.FnPairsNeeded", spec := "fnPairsNeeded", unfollowed := true, recurses := true, apart := false, narrowed := true }
def FnPairsNeededUptoSaid : Prop := fnPairsNeededUptoRow.holds Try.pinned (OpenSpec.upto fnPairsNeededSpec)

/-- 'laws.FnExactPairsOn', WHERE WHAT IT READS IS OF BULK AT MOST 1048576: true; the input reads as it did. -/
def fnExactPairsOnUptoRow : OpenClaim := { program := "ytiojggephmacpaa", sum := "f4ac50a7b9f9bb38cd700af134e6fd5127dcbb918919b10bde9bc75ba6133535", func := "loop.example/g00869/laws.FnExactPairsOn", spec := "fnExactPairsOn", apart := false, narrowed := true }
def FnExactPairsOnUptoSaid : Prop := fnExactPairsOnUptoRow.holds Try.pinned (OpenSpec.upto fnExactPairsOnSpec)

/-- 'laws.FnExactOftenGame', WHERE WHAT IT READS IS OF BULK AT MOST 1048576: true; the input reads as it did. -/
def fnExactOftenGameUptoRow : OpenClaim := { program := "ytiojggephmacpaa", sum := "f4ac50a7b9f9bb38cd700af134e6fd5127dcbb918919b10bde9bc75ba6133535", func := "loop.example/g00869/laws.FnExactOftenGame", spec := "fnExactOftenGame", apart := false, narrowed := true }
def FnExactOftenGameUptoSaid : Prop := fnExactOftenGameUptoRow.holds Try.pinned (OpenSpec.upto fnExactOftenGameSpec)

/-- 'laws.FnExactStaysGame', WHERE WHAT IT READS IS OF BULK AT MOST 1048576: true; the input reads as it did. -/
def fnExactStaysGameUptoRow : OpenClaim := { program := "ytiojggephmacpaa", sum := "f4ac50a7b9f9bb38cd700af134e6fd5127dcbb918919b10bde9bc75ba6133535", func := "loop.example/g00869/laws.FnExactStaysGame", spec := "fnExactStaysGame", apart := false, narrowed := true }
def FnExactStaysGameUptoSaid : Prop := fnExactStaysGameUptoRow.holds Try.pinned (OpenSpec.upto fnExactStaysGameSpec)

/-- 'laws.FnExactNeededPairs', WHERE WHAT IT READS IS OF BULK AT MOST 1048576: true; the input reads as it did. -/
def fnExactNeededPairsUptoRow : OpenClaim := { program := "ytiojggephmacpaa", sum := "f4ac50a7b9f9bb38cd700af134e6fd5127dcbb918919b10bde9bc75ba6133535", func := "loop.example/g00869/laws.FnExactNeededPairs", spec := "fnExactNeededPairs", unfollowed := true, recurses := true, apart := false, narrowed := true }
def FnExactNeededPairsUptoSaid : Prop := fnExactNeededPairsUptoRow.holds Try.pinned (OpenSpec.upto fnExactNeededPairsSpec)

/-- 'laws.FnExactStaysLevels', WHERE WHAT IT READS IS OF BULK AT MOST 1048576: true; the input reads as it did. -/
def fnExactStaysLevelsUptoRow : OpenClaim := { program := "ytiojggephmacpaa", sum := "f4ac50a7b9f9bb38cd700af134e6fd5127dcbb918919b10bde9bc75ba6133535", func := "loop.example/g00869/laws.FnExactStaysLevels", spec := "fnExactStaysLevels", unfollowed := true, recurses := true, apart := false, narrowed := true }
def FnExactStaysLevelsUptoSaid : Prop := fnExactStaysLevelsUptoRow.holds Try.pinned (OpenSpec.upto fnExactStaysLevelsSpec)

/-- 'laws.FnExactJoinedGame', WHERE WHAT IT READS IS OF BULK AT MOST 1048576: true; the input reads as it did. -/
def fnExactJoinedGameUptoRow : OpenClaim := { program := "ytiojggephmacpaa", sum := "f4ac50a7b9f9bb38cd700af134e6fd5127dcbb918919b10bde9bc75ba6133535", func := "loop.example/g00869/laws.FnExactJoinedGame", spec := "fnExactJoinedGame", apart := false, narrowed := true }
def FnExactJoinedGameUptoSaid : Prop := fnExactJoinedGameUptoRow.holds Try.pinned (OpenSpec.upto fnExactJoinedGameSpec)

/-- 'laws.FnExactRaisedGame', WHERE WHAT IT READS IS OF BULK AT MOST 1048576: true; the input reads as it did. -/
def fnExactRaisedGameUptoRow : OpenClaim := { program := "ytiojggephmacpaa", sum := "f4ac50a7b9f9bb38cd700af134e6fd5127dcbb918919b10bde9bc75ba6133535", func := "loop.example/g00869/laws.FnExactRaisedGame", spec := "fnExactRaisedGame", apart := false, narrowed := true }
def FnExactRaisedGameUptoSaid : Prop := fnExactRaisedGameUptoRow.holds Try.pinned (OpenSpec.upto fnExactRaisedGameSpec)

/-- 'laws.FnExactStaysWon', WHERE WHAT IT READS IS OF BULK AT MOST 1048576: true; the input reads as it did. -/
def fnExactStaysWonUptoRow : OpenClaim := { program := "ytiojggephmacpaa", sum := "f4ac50a7b9f9bb38cd700af134e6fd5127dcbb918919b10bde9bc75ba6133535", func := "loop.example/g00869/laws.FnExactStaysWon", spec := "fnExactStaysWon", unfollowed := true, recurses := true, apart := false, narrowed := true }
def FnExactStaysWonUptoSaid : Prop := fnExactStaysWonUptoRow.holds Try.pinned (OpenSpec.upto fnExactStaysWonSpec)

/-- 'laws.FnLevels', WHERE WHAT IT READS IS OF BULK AT MOST 1048576: true; the input reads as it did. -/
def fnLevelsUptoRow : OpenClaim := { program := "ytiojggephmacpaa", sum := "f4ac50a7b9f9bb38cd700af134e6fd5127dcbb918919b10bde9bc75ba6133535", func := "loop.example/g00869/laws.FnLevels", spec := "fnLevels", unfollowed := true, recurses := true, apart := false, narrowed := true }
def FnLevelsUptoSaid : Prop := fnLevelsUptoRow.holds Try.pinned (OpenSpec.upto fnLevelsSpec)

/-- 'laws.FnExactStaysPlan', WHERE WHAT IT READS IS OF BULK AT MOST 1048576: true; the input reads as it did. -/
def fnExactStaysPlanUptoRow : OpenClaim := { program := "ytiojggephmacpaa", sum := "f4ac50a7b9f9bb38cd700af134e6fd5127dcbb918919b10bde9bc75ba6133535", func := "loop.example/g00869/laws.FnExactStaysPlan", spec := "fnExactStaysPlan", unfollowed := true, recurses := true, apart := false, narrowed := true }
def FnExactStaysPlanUptoSaid : Prop := fnExactStaysPlanUptoRow.holds Try.pinned (OpenSpec.upto fnExactStaysPlanSpec)

end Rows
end Go.Proofs.Ytiojggephmacpaa
