/-
  No cell of these rows narrows 'for every input' (looked for: loops, veiled, ifaces, maps, wideKeys, modest, calm, conditions, laid).
  DERIVED. THE GIVEN ROWS OF THIS SEAT. 12 by the template 'for every input the law returns true; each argument reads behind the call as it read before'; 0 by the template 'total and deterministic' (their statements: YtlepekglmofelaaTotals.lean).
  GIVEN WITH THE SEED: the statements are not yours to turn. If you find one false, say at which input.
  Laid BY PROGRAM, IN A SANDBOX (cutbox-rows.mjs): the forced cells as the released guide's own fill.sh prints them over the translation bb76452e38087f13… (all of the seat's roots in one cut). By AI agents, Wed Nov 11 2026. No macro, syntax, notation, axiom, sorry.
-/
import Derived.Test.YtlepekglmofelaaChecked
import GoSem.Claim
import GoSem.ClaimJoined
import GoSem.ClaimMapViews
import Derived.JoinedTies
import Derived.KernelRfl
namespace Go.Proofs.Ytlepekglmofelaa
/- THE CELL 'sum', in the pinned program and in every row, IS THE sha256 OF THE DUMP (.gsa) THAT YtlepekglmofelaaProg.lean LOADS. Nothing in Lean hashes anything: it is a label: what it is worth is what the hold of that sum in a sandbox is worth. -/
noncomputable def Try.pinned : Pinned := { name := "ytlepekglmofelaa", sum := "bb76452e38087f13655208378dbcbc4bc5f63db556c37a7492d01580fe842a9d", checked := Try.checked }
namespace Rows
def none {H : Type} : Left H := { results := [], args := [] }

/-- 'laws.FnExactCliqueGame': WHATEVER THE INPUT: true; the input reads as it did. -/
def fnExactCliqueGameSpec : ChangeSpec := { name := "fnExactCliqueGame", fn := fun _ => fun
  | [d] => { results := [.lit (.bool true)], args := [d] }
  | _ => none }
def fnExactCliqueGameRow : OpenClaim := { program := "ytlepekglmofelaa", sum := "bb76452e38087f13655208378dbcbc4bc5f63db556c37a7492d01580fe842a9d", func := "loop.example/g00869/laws.FnExactCliqueGame", spec := "fnExactCliqueGame", apart := false }
def FnExactCliqueGameSaid : Prop := fnExactCliqueGameRow.holds Try.pinned (OpenSpec.ofChange fnExactCliqueGameSpec)

/-- ITS FALSE NEIGHBOUR: 'it returns false'. Refute it at one input. -/
def fnExactCliqueGameWrong : ChangeSpec := { name := "fnExactCliqueGame", fn := fun _ => fun
  | [d] => { results := [.lit (.bool false)], args := [d] }
  | _ => none }
def FnExactCliqueGameWrongFalsely : Prop := fnExactCliqueGameRow.holds Try.pinned (OpenSpec.ofChange fnExactCliqueGameWrong)

/-- 'laws.FnExactPlacesLasso': WHATEVER THE INPUT: true; the input reads as it did. -/
def fnExactPlacesLassoSpec : ChangeSpec := { name := "fnExactPlacesLasso", fn := fun _ => fun
  | [d1, d2] => { results := [.lit (.bool true)], args := [d1, d2] }
  | _ => none }
def fnExactPlacesLassoRow : OpenClaim := { program := "ytlepekglmofelaa", sum := "bb76452e38087f13655208378dbcbc4bc5f63db556c37a7492d01580fe842a9d", func := "loop.example/g00869/laws.FnExactPlacesLasso", spec := "fnExactPlacesLasso", apart := false }
def FnExactPlacesLassoSaid : Prop := fnExactPlacesLassoRow.holds Try.pinned (OpenSpec.ofChange fnExactPlacesLassoSpec)

/-- ITS FALSE NEIGHBOUR: 'it returns false'. Refute it at one input. -/
def fnExactPlacesLassoWrong : ChangeSpec := { name := "fnExactPlacesLasso", fn := fun _ => fun
  | [d1, d2] => { results := [.lit (.bool false)], args := [d1, d2] }
  | _ => none }
def FnExactPlacesLassoWrongFalsely : Prop := fnExactPlacesLassoRow.holds Try.pinned (OpenSpec.ofChange fnExactPlacesLassoWrong)

/-- 'laws.FnExactMetWell': WHATEVER THE INPUT: true; the input reads as it did. -/
def fnExactMetWellSpec : ChangeSpec := { name := "fnExactMetWell", fn := fun _ => fun
  | [d1, d2] => { results := [.lit (.bool true)], args := [d1, d2] }
  | _ => none }
def fnExactMetWellRow : OpenClaim := { program := "ytlepekglmofelaa", sum := "bb76452e38087f13655208378dbcbc4bc5f63db556c37a7492d01580fe842a9d", func := "loop.example/g00869/laws.FnExactMetWell", spec := "fnExactMetWell", apart := false }
def FnExactMetWellSaid : Prop := fnExactMetWellRow.holds Try.pinned (OpenSpec.ofChange fnExactMetWellSpec)

/-- ITS FALSE NEIGHBOUR: 'it returns false'. Refute it at one input. -/
def fnExactMetWellWrong : ChangeSpec := { name := "fnExactMetWell", fn := fun _ => fun
  | [d1, d2] => { results := [.lit (.bool false)], args := [d1, d2] }
  | _ => none }
def FnExactMetWellWrongFalsely : Prop := fnExactMetWellRow.holds Try.pinned (OpenSpec.ofChange fnExactMetWellWrong)

/-- 'laws.FnPairsNeeded': WHATEVER THE INPUT: true; the input reads as it did. -/
def fnPairsNeededSpec : ChangeSpec := { name := "fnPairsNeeded", fn := fun _ => fun
  | [d] => { results := [.lit (.bool true)], args := [d] }
  | _ => none }
def fnPairsNeededRow : OpenClaim := { program := "ytlepekglmofelaa", sum := "bb76452e38087f13655208378dbcbc4bc5f63db556c37a7492d01580fe842a9d", func := "loop.example/g00869/laws.FnPairsNeeded", spec := "fnPairsNeeded", unfollowed := true, recurses := true, apart := false }
def FnPairsNeededSaid : Prop := fnPairsNeededRow.holds Try.pinned (OpenSpec.ofChange fnPairsNeededSpec)

/-- ITS FALSE NEIGHBOUR: 'it returns false'. Refute it at one input. -/
def fnPairsNeededWrong : ChangeSpec := { name := "fnPairsNeeded", fn := fun _ => fun
  | [d] => { results := [.lit (.bool false)], args := [d] }
  | _ => none }
def FnPairsNeededWrongFalsely : Prop := fnPairsNeededRow.holds Try.pinned (OpenSpec.ofChange fnPairsNeededWrong)

/-- 'laws.FnExactPairsOn': WHATEVER THE INPUT: true; the input reads as it did. -/
def fnExactPairsOnSpec : ChangeSpec := { name := "fnExactPairsOn", fn := fun _ => fun
  | [d1, d2] => { results := [.lit (.bool true)], args := [d1, d2] }
  | _ => none }
def fnExactPairsOnRow : OpenClaim := { program := "ytlepekglmofelaa", sum := "bb76452e38087f13655208378dbcbc4bc5f63db556c37a7492d01580fe842a9d", func := "loop.example/g00869/laws.FnExactPairsOn", spec := "fnExactPairsOn", apart := false }
def FnExactPairsOnSaid : Prop := fnExactPairsOnRow.holds Try.pinned (OpenSpec.ofChange fnExactPairsOnSpec)

/-- ITS FALSE NEIGHBOUR: 'it returns false'. Refute it at one input. -/
def fnExactPairsOnWrong : ChangeSpec := { name := "fnExactPairsOn", fn := fun _ => fun
  | [d1, d2] => { results := [.lit (.bool false)], args := [d1, d2] }
  | _ => none }
def FnExactPairsOnWrongFalsely : Prop := fnExactPairsOnRow.holds Try.pinned (OpenSpec.ofChange fnExactPairsOnWrong)

/-- 'laws.FnExactRecordPrio': WHATEVER THE INPUT: true; the input reads as it did. -/
def fnExactRecordPrioSpec : ChangeSpec := { name := "fnExactRecordPrio", fn := fun _ => fun
  | [d1, d2, d3] => { results := [.lit (.bool true)], args := [d1, d2, d3] }
  | _ => none }
def fnExactRecordPrioRow : OpenClaim := { program := "ytlepekglmofelaa", sum := "bb76452e38087f13655208378dbcbc4bc5f63db556c37a7492d01580fe842a9d", func := "loop.example/g00869/laws.FnExactRecordPrio", spec := "fnExactRecordPrio", apart := false }
def FnExactRecordPrioSaid : Prop := fnExactRecordPrioRow.holds Try.pinned (OpenSpec.ofChange fnExactRecordPrioSpec)

/-- ITS FALSE NEIGHBOUR: 'it returns false'. Refute it at one input. -/
def fnExactRecordPrioWrong : ChangeSpec := { name := "fnExactRecordPrio", fn := fun _ => fun
  | [d1, d2, d3] => { results := [.lit (.bool false)], args := [d1, d2, d3] }
  | _ => none }
def FnExactRecordPrioWrongFalsely : Prop := fnExactRecordPrioRow.holds Try.pinned (OpenSpec.ofChange fnExactRecordPrioWrong)

/-- 'laws.FnExactBrokenBy': WHATEVER THE INPUT: true; the input reads as it did. -/
def fnExactBrokenBySpec : ChangeSpec := { name := "fnExactBrokenBy", fn := fun _ => fun
  | [d1, d2] => { results := [.lit (.bool true)], args := [d1, d2] }
  | _ => none }
def fnExactBrokenByRow : OpenClaim := { program := "ytlepekglmofelaa", sum := "bb76452e38087f13655208378dbcbc4bc5f63db556c37a7492d01580fe842a9d", func := "loop.example/g00869/laws.FnExactBrokenBy", spec := "fnExactBrokenBy", apart := false }
def FnExactBrokenBySaid : Prop := fnExactBrokenByRow.holds Try.pinned (OpenSpec.ofChange fnExactBrokenBySpec)

/-- ITS FALSE NEIGHBOUR: 'it returns false'. Refute it at one input. -/
def fnExactBrokenByWrong : ChangeSpec := { name := "fnExactBrokenBy", fn := fun _ => fun
  | [d1, d2] => { results := [.lit (.bool false)], args := [d1, d2] }
  | _ => none }
def FnExactBrokenByWrongFalsely : Prop := fnExactBrokenByRow.holds Try.pinned (OpenSpec.ofChange fnExactBrokenByWrong)

/-- 'laws.FnExactNextRecord': WHATEVER THE INPUT: true; the input reads as it did. -/
def fnExactNextRecordSpec : ChangeSpec := { name := "fnExactNextRecord", fn := fun _ => fun
  | [d1, d2, d3] => { results := [.lit (.bool true)], args := [d1, d2, d3] }
  | _ => none }
def fnExactNextRecordRow : OpenClaim := { program := "ytlepekglmofelaa", sum := "bb76452e38087f13655208378dbcbc4bc5f63db556c37a7492d01580fe842a9d", func := "loop.example/g00869/laws.FnExactNextRecord", spec := "fnExactNextRecord", apart := false }
def FnExactNextRecordSaid : Prop := fnExactNextRecordRow.holds Try.pinned (OpenSpec.ofChange fnExactNextRecordSpec)

/-- ITS FALSE NEIGHBOUR: 'it returns false'. Refute it at one input. -/
def fnExactNextRecordWrong : ChangeSpec := { name := "fnExactNextRecord", fn := fun _ => fun
  | [d1, d2, d3] => { results := [.lit (.bool false)], args := [d1, d2, d3] }
  | _ => none }
def FnExactNextRecordWrongFalsely : Prop := fnExactNextRecordRow.holds Try.pinned (OpenSpec.ofChange fnExactNextRecordWrong)

/-- 'laws.FnExactStayWon': WHATEVER THE INPUT: true; the input reads as it did. -/
def fnExactStayWonSpec : ChangeSpec := { name := "fnExactStayWon", fn := fun _ => fun
  | [d1, d2, d3] => { results := [.lit (.bool true)], args := [d1, d2, d3] }
  | _ => none }
def fnExactStayWonRow : OpenClaim := { program := "ytlepekglmofelaa", sum := "bb76452e38087f13655208378dbcbc4bc5f63db556c37a7492d01580fe842a9d", func := "loop.example/g00869/laws.FnExactStayWon", spec := "fnExactStayWon", unfollowed := true, recurses := true, apart := false }
def FnExactStayWonSaid : Prop := fnExactStayWonRow.holds Try.pinned (OpenSpec.ofChange fnExactStayWonSpec)

/-- ITS FALSE NEIGHBOUR: 'it returns false'. Refute it at one input. -/
def fnExactStayWonWrong : ChangeSpec := { name := "fnExactStayWon", fn := fun _ => fun
  | [d1, d2, d3] => { results := [.lit (.bool false)], args := [d1, d2, d3] }
  | _ => none }
def FnExactStayWonWrongFalsely : Prop := fnExactStayWonRow.holds Try.pinned (OpenSpec.ofChange fnExactStayWonWrong)

/-- 'laws.FnExactOftenGame': WHATEVER THE INPUT: true; the input reads as it did. -/
def fnExactOftenGameSpec : ChangeSpec := { name := "fnExactOftenGame", fn := fun _ => fun
  | [d1, d2] => { results := [.lit (.bool true)], args := [d1, d2] }
  | _ => none }
def fnExactOftenGameRow : OpenClaim := { program := "ytlepekglmofelaa", sum := "bb76452e38087f13655208378dbcbc4bc5f63db556c37a7492d01580fe842a9d", func := "loop.example/g00869/laws.FnExactOftenGame", spec := "fnExactOftenGame", apart := false }
def FnExactOftenGameSaid : Prop := fnExactOftenGameRow.holds Try.pinned (OpenSpec.ofChange fnExactOftenGameSpec)

/-- ITS FALSE NEIGHBOUR: 'it returns false'. Refute it at one input. -/
def fnExactOftenGameWrong : ChangeSpec := { name := "fnExactOftenGame", fn := fun _ => fun
  | [d1, d2] => { results := [.lit (.bool false)], args := [d1, d2] }
  | _ => none }
def FnExactOftenGameWrongFalsely : Prop := fnExactOftenGameRow.holds Try.pinned (OpenSpec.ofChange fnExactOftenGameWrong)

/-- 'laws.FnExactStaysGame': WHATEVER THE INPUT: true; the input reads as it did. -/
def fnExactStaysGameSpec : ChangeSpec := { name := "fnExactStaysGame", fn := fun _ => fun
  | [d1, d2] => { results := [.lit (.bool true)], args := [d1, d2] }
  | _ => none }
def fnExactStaysGameRow : OpenClaim := { program := "ytlepekglmofelaa", sum := "bb76452e38087f13655208378dbcbc4bc5f63db556c37a7492d01580fe842a9d", func := "loop.example/g00869/laws.FnExactStaysGame", spec := "fnExactStaysGame", apart := false }
def FnExactStaysGameSaid : Prop := fnExactStaysGameRow.holds Try.pinned (OpenSpec.ofChange fnExactStaysGameSpec)

/-- ITS FALSE NEIGHBOUR: 'it returns false'. Refute it at one input. -/
def fnExactStaysGameWrong : ChangeSpec := { name := "fnExactStaysGame", fn := fun _ => fun
  | [d1, d2] => { results := [.lit (.bool false)], args := [d1, d2] }
  | _ => none }
def FnExactStaysGameWrongFalsely : Prop := fnExactStaysGameRow.holds Try.pinned (OpenSpec.ofChange fnExactStaysGameWrong)

/-- 'laws.FnExactNeededPairs': WHATEVER THE INPUT: true; the input reads as it did. -/
def fnExactNeededPairsSpec : ChangeSpec := { name := "fnExactNeededPairs", fn := fun _ => fun
  | [d] => { results := [.lit (.bool true)], args := [d] }
  | _ => none }
def fnExactNeededPairsRow : OpenClaim := { program := "ytlepekglmofelaa", sum := "bb76452e38087f13655208378dbcbc4bc5f63db556c37a7492d01580fe842a9d", func := "loop.example/g00869/laws.FnExactNeededPairs", spec := "fnExactNeededPairs", unfollowed := true, recurses := true, apart := false }
def FnExactNeededPairsSaid : Prop := fnExactNeededPairsRow.holds Try.pinned (OpenSpec.ofChange fnExactNeededPairsSpec)

/-- ITS FALSE NEIGHBOUR: 'it returns false'. Refute it at one input. -/
def fnExactNeededPairsWrong : ChangeSpec := { name := "fnExactNeededPairs", fn := fun _ => fun
  | [d] => { results := [.lit (.bool false)], args := [d] }
  | _ => none }
def FnExactNeededPairsWrongFalsely : Prop := fnExactNeededPairsRow.holds Try.pinned (OpenSpec.ofChange fnExactNeededPairsWrong)

/- THE SECOND FORM. 'bulk': how many values and letters a reading holds, each counted each time it is reached (what is shared counts as often as it is met; a slice's spare places count too). A statement '..UptoSaid' is the law's where the arguments, and the package variables that the reading takes, are together of bulk at most 1048576: NARROWER than '..Said'. Prove '..Said' where nothing that the law and all that it calls make is longer than what came in: it says more and counts as full. Else prove '..UptoSaid'. A law counts once. -/
mutual
def uptoBulk {H : Type} : DataW H → Nat
  | .lit (.string bytes) => bytes.length + 1
  | .lit _ => 1
  | .nil => 1
  | .ptr d => uptoBulk d + 1
  | .slice elems spare => uptoBulkAll elems + uptoBulkAll spare + 1
  | .agg parts => uptoBulkAll parts + 1
  | .iface _ d => uptoBulk d + 1
  | .map entries => uptoBulkEntries entries + 1
  | .held _ => 1
def uptoBulkAll {H : Type} : List (DataW H) → Nat
  | [] => 0
  | d :: r => uptoBulk d + uptoBulkAll r
def uptoBulkEntries {H : Type} : List (Lit × DataW H) → Nat
  | [] => 0
  | x :: r => uptoBulkEntry x + uptoBulkEntries r
def uptoBulkEntry {H : Type} : Lit × DataW H → Nat
  | (.string bytes, d) => bytes.length + uptoBulk d + 1
  | (_, d) => uptoBulk d + 1
 end
def uptoSmall : (H : Type) → List (DataW H) → Bool := fun _ ds => decide (uptoBulkAll ds ≤ 1048576)
def OpenSpec.upto (s : _root_.Go.ChangeSpec) : _root_.Go.OpenSpec := { _root_.Go.OpenSpec.ofChange s with cond := some uptoSmall }

/-- 'laws.FnExactCliqueGame', WHERE WHAT IT READS IS OF BULK AT MOST 1048576: true; the input reads as it did. -/
def fnExactCliqueGameUptoRow : OpenClaim := { program := "ytlepekglmofelaa", sum := "bb76452e38087f13655208378dbcbc4bc5f63db556c37a7492d01580fe842a9d", func := "loop.example/g00869/laws.FnExactCliqueGame", spec := "fnExactCliqueGame", apart := false, narrowed := true }
def FnExactCliqueGameUptoSaid : Prop := fnExactCliqueGameUptoRow.holds Try.pinned (OpenSpec.upto fnExactCliqueGameSpec)

/-- 'laws.FnExactPlacesLasso', WHERE WHAT IT READS IS OF BULK AT MOST 1048576: true; the input reads as it did. -/
def fnExactPlacesLassoUptoRow : OpenClaim := { program := "ytlepekglmofelaa", sum := "bb76452e38087f13655208378dbcbc4bc5f63db556c37a7492d01580fe842a9d", func := "loop.example/g00869/laws.FnExactPlacesLasso", spec := "fnExactPlacesLasso", apart := false, narrowed := true }
def FnExactPlacesLassoUptoSaid : Prop := fnExactPlacesLassoUptoRow.holds Try.pinned (OpenSpec.upto fnExactPlacesLassoSpec)

/-- 'laws.FnExactMetWell', WHERE WHAT IT READS IS OF BULK AT MOST 1048576: true; the input reads as it did. -/
def fnExactMetWellUptoRow : OpenClaim := { program := "ytlepekglmofelaa", sum := "bb76452e38087f13655208378dbcbc4bc5f63db556c37a7492d01580fe842a9d", func := "loop.example/g00869/laws.FnExactMetWell", spec := "fnExactMetWell", apart := false, narrowed := true }
def FnExactMetWellUptoSaid : Prop := fnExactMetWellUptoRow.holds Try.pinned (OpenSpec.upto fnExactMetWellSpec)

/-- 'laws.FnPairsNeeded', WHERE WHAT IT READS IS OF BULK AT MOST 1048576: true; the input reads as it did. -/
def fnPairsNeededUptoRow : OpenClaim := { program := "ytlepekglmofelaa", sum := "bb76452e38087f13655208378dbcbc4bc5f63db556c37a7492d01580fe842a9d", func := "loop.example/g00869/laws.FnPairsNeeded", spec := "fnPairsNeeded", unfollowed := true, recurses := true, apart := false, narrowed := true }
def FnPairsNeededUptoSaid : Prop := fnPairsNeededUptoRow.holds Try.pinned (OpenSpec.upto fnPairsNeededSpec)

/-- 'laws.FnExactPairsOn', WHERE WHAT IT READS IS OF BULK AT MOST 1048576: true; the input reads as it did. -/
def fnExactPairsOnUptoRow : OpenClaim := { program := "ytlepekglmofelaa", sum := "bb76452e38087f13655208378dbcbc4bc5f63db556c37a7492d01580fe842a9d", func := "loop.example/g00869/laws.FnExactPairsOn", spec := "fnExactPairsOn", apart := false, narrowed := true }
def FnExactPairsOnUptoSaid : Prop := fnExactPairsOnUptoRow.holds Try.pinned (OpenSpec.upto fnExactPairsOnSpec)

/-- 'laws.FnExactRecordPrio', WHERE WHAT IT READS IS OF BULK AT MOST 1048576: true; the input reads as it did. -/
def fnExactRecordPrioUptoRow : OpenClaim := { program := "ytlepekglmofelaa", sum := "bb76452e38087f13655208378dbcbc4bc5f63db556c37a7492d01580fe842a9d", func := "loop.example/g00869/laws.FnExactRecordPrio", spec := "fnExactRecordPrio", apart := false, narrowed := true }
def FnExactRecordPrioUptoSaid : Prop := fnExactRecordPrioUptoRow.holds Try.pinned (OpenSpec.upto fnExactRecordPrioSpec)

/-- 'laws.FnExactBrokenBy', WHERE WHAT IT READS IS OF BULK AT MOST 1048576: true; the input reads as it did. -/
def fnExactBrokenByUptoRow : OpenClaim := { program := "ytlepekglmofelaa", sum := "bb76452e38087f13655208378dbcbc4bc5f63db556c37a7492d01580fe842a9d", func := "loop.example/g00869/laws.FnExactBrokenBy", spec := "fnExactBrokenBy", apart := false, narrowed := true }
def FnExactBrokenByUptoSaid : Prop := fnExactBrokenByUptoRow.holds Try.pinned (OpenSpec.upto fnExactBrokenBySpec)

/-- 'laws.FnExactNextRecord', WHERE WHAT IT READS IS OF BULK AT MOST 1048576: true; the input reads as it did. -/
def fnExactNextRecordUptoRow : OpenClaim := { program := "ytlepekglmofelaa", sum := "bb76452e38087f13655208378dbcbc4bc5f63db556c37a7492d01580fe842a9d", func := "loop.example/g00869/laws.FnExactNextRecord", spec := "fnExactNextRecord", apart := false, narrowed := true }
def FnExactNextRecordUptoSaid : Prop := fnExactNextRecordUptoRow.holds Try.pinned (OpenSpec.upto fnExactNextRecordSpec)

/-- 'laws.FnExactStayWon', WHERE WHAT IT READS IS OF BULK AT MOST 1048576: true; the input reads as it did. -/
def fnExactStayWonUptoRow : OpenClaim := { program := "ytlepekglmofelaa", sum := "bb76452e38087f13655208378dbcbc4bc5f63db556c37a7492d01580fe842a9d", func := "loop.example/g00869/laws.FnExactStayWon", spec := "fnExactStayWon", unfollowed := true, recurses := true, apart := false, narrowed := true }
def FnExactStayWonUptoSaid : Prop := fnExactStayWonUptoRow.holds Try.pinned (OpenSpec.upto fnExactStayWonSpec)

/-- 'laws.FnExactOftenGame', WHERE WHAT IT READS IS OF BULK AT MOST 1048576: true; the input reads as it did. -/
def fnExactOftenGameUptoRow : OpenClaim := { program := "ytlepekglmofelaa", sum := "bb76452e38087f13655208378dbcbc4bc5f63db556c37a7492d01580fe842a9d", func := "loop.example/g00869/laws.FnExactOftenGame", spec := "fnExactOftenGame", apart := false, narrowed := true }
def FnExactOftenGameUptoSaid : Prop := fnExactOftenGameUptoRow.holds Try.pinned (OpenSpec.upto fnExactOftenGameSpec)

/-- 'laws.FnExactStaysGame', WHERE WHAT IT READS IS OF BULK AT MOST 1048576: true; the input reads as it did. -/
def fnExactStaysGameUptoRow : OpenClaim := { program := "ytlepekglmofelaa", sum := "bb76452e38087f13655208378dbcbc4bc5f63db556c37a7492d01580fe842a9d", func := "loop.example/g00869/laws.FnExactStaysGame", spec := "fnExactStaysGame", apart := false, narrowed := true }
def FnExactStaysGameUptoSaid : Prop := fnExactStaysGameUptoRow.holds Try.pinned (OpenSpec.upto fnExactStaysGameSpec)

/-- 'laws.FnExactNeededPairs', WHERE WHAT IT READS IS OF BULK AT MOST 1048576: true; the input reads as it did. -/
def fnExactNeededPairsUptoRow : OpenClaim := { program := "ytlepekglmofelaa", sum := "bb76452e38087f13655208378dbcbc4bc5f63db556c37a7492d01580fe842a9d", func := "loop.example/g00869/laws.FnExactNeededPairs", spec := "fnExactNeededPairs", unfollowed := true, recurses := true, apart := false, narrowed := true }
def FnExactNeededPairsUptoSaid : Prop := fnExactNeededPairsUptoRow.holds Try.pinned (OpenSpec.upto fnExactNeededPairsSpec)

end Rows
end Go.Proofs.Ytlepekglmofelaa
