/-
  No cell of these rows narrows 'for every input' (looked for: loops, veiled, ifaces, maps, wideKeys, modest, calm, conditions, laid).
  DERIVED. THE GIVEN ROWS OF THIS SEAT. 6 by the template 'for every input the law returns true; each argument reads behind the call as it read before'; 0 by the template 'total and deterministic' (their statements: YtgnfnlgaocaoeaaTotals.lean).
  GIVEN WITH THE SEED: the statements are not yours to turn. If you find one false, say at which input.
  Laid BY PROGRAM, IN A SANDBOX (cutbox-rows.mjs): the forced cells as the released guide's own fill.sh prints them over the translation 4462598bbf779b58… (all of the seat's roots in one cut). By AI agents, Wed Nov 11 2026. No macro, syntax, notation, axiom, sorry.
-/
import Derived.Test.YtgnfnlgaocaoeaaChecked
import GoSem.Claim
import GoSem.ClaimJoined
import GoSem.ClaimMapViews
import Derived.JoinedTies
import Derived.KernelRfl
namespace Go.Proofs.Ytgnfnlgaocaoeaa
/- THE CELL 'sum', in the pinned program and in every row, IS THE sha256 OF THE DUMP (.gsa) THAT YtgnfnlgaocaoeaaProg.lean LOADS. Nothing in Lean hashes anything: it is a label: what it is worth is what the hold of that sum in a sandbox is worth. -/
noncomputable def Try.pinned : Pinned := { name := "ytgnfnlgaocaoeaa", sum := "4462598bbf779b583e23250ce029eed99ebd8b0f4f00766d0a33beebb456aa82", checked := Try.checked }
namespace Rows
def none {H : Type} : Left H := { results := [], args := [] }

/-- 'laws.FnExactRecordOk': WHATEVER THE INPUT: true; the input reads as it did. -/
def fnExactRecordOkSpec : ChangeSpec := { name := "fnExactRecordOk", fn := fun _ => fun
  | [d1, d2] => { results := [.lit (.bool true)], args := [d1, d2] }
  | _ => none }
def fnExactRecordOkRow : OpenClaim := { program := "ytgnfnlgaocaoeaa", sum := "4462598bbf779b583e23250ce029eed99ebd8b0f4f00766d0a33beebb456aa82", func := "loop.example/g00869/laws.FnExactRecordOk", spec := "fnExactRecordOk", apart := false }
def FnExactRecordOkSaid : Prop := fnExactRecordOkRow.holds Try.pinned (OpenSpec.ofChange fnExactRecordOkSpec)

/-- ITS FALSE NEIGHBOUR: 'it returns false'. Refute it at one input. -/
def fnExactRecordOkWrong : ChangeSpec := { name := "fnExactRecordOk", fn := fun _ => fun
  | [d1, d2] => { results := [.lit (.bool false)], args := [d1, d2] }
  | _ => none }
def FnExactRecordOkWrongFalsely : Prop := fnExactRecordOkRow.holds Try.pinned (OpenSpec.ofChange fnExactRecordOkWrong)

/-- 'laws.FnExactShapeOk': WHATEVER THE INPUT: true; the input reads as it did. -/
def fnExactShapeOkSpec : ChangeSpec := { name := "fnExactShapeOk", fn := fun _ => fun
  | [d] => { results := [.lit (.bool true)], args := [d] }
  | _ => none }
def fnExactShapeOkRow : OpenClaim := { program := "ytgnfnlgaocaoeaa", sum := "4462598bbf779b583e23250ce029eed99ebd8b0f4f00766d0a33beebb456aa82", func := "loop.example/g00869/laws.FnExactShapeOk", spec := "fnExactShapeOk", apart := false }
def FnExactShapeOkSaid : Prop := fnExactShapeOkRow.holds Try.pinned (OpenSpec.ofChange fnExactShapeOkSpec)

/-- ITS FALSE NEIGHBOUR: 'it returns false'. Refute it at one input. -/
def fnExactShapeOkWrong : ChangeSpec := { name := "fnExactShapeOk", fn := fun _ => fun
  | [d] => { results := [.lit (.bool false)], args := [d] }
  | _ => none }
def FnExactShapeOkWrongFalsely : Prop := fnExactShapeOkRow.holds Try.pinned (OpenSpec.ofChange fnExactShapeOkWrong)

/-- 'laws.FnExactPairsOk': WHATEVER THE INPUT: true; the input reads as it did. -/
def fnExactPairsOkSpec : ChangeSpec := { name := "fnExactPairsOk", fn := fun _ => fun
  | [d1, d2] => { results := [.lit (.bool true)], args := [d1, d2] }
  | _ => none }
def fnExactPairsOkRow : OpenClaim := { program := "ytgnfnlgaocaoeaa", sum := "4462598bbf779b583e23250ce029eed99ebd8b0f4f00766d0a33beebb456aa82", func := "loop.example/g00869/laws.FnExactPairsOk", spec := "fnExactPairsOk", apart := false }
def FnExactPairsOkSaid : Prop := fnExactPairsOkRow.holds Try.pinned (OpenSpec.ofChange fnExactPairsOkSpec)

/-- ITS FALSE NEIGHBOUR: 'it returns false'. Refute it at one input. -/
def fnExactPairsOkWrong : ChangeSpec := { name := "fnExactPairsOk", fn := fun _ => fun
  | [d1, d2] => { results := [.lit (.bool false)], args := [d1, d2] }
  | _ => none }
def FnExactPairsOkWrongFalsely : Prop := fnExactPairsOkRow.holds Try.pinned (OpenSpec.ofChange fnExactPairsOkWrong)

/-- 'laws.FnExactPlaceIn': WHATEVER THE INPUT: true; the input reads as it did. -/
def fnExactPlaceInSpec : ChangeSpec := { name := "fnExactPlaceIn", fn := fun _ => fun
  | [d1, d2, d3] => { results := [.lit (.bool true)], args := [d1, d2, d3] }
  | _ => none }
def fnExactPlaceInRow : OpenClaim := { program := "ytgnfnlgaocaoeaa", sum := "4462598bbf779b583e23250ce029eed99ebd8b0f4f00766d0a33beebb456aa82", func := "loop.example/g00869/laws.FnExactPlaceIn", spec := "fnExactPlaceIn", unfollowed := true, recurses := true, apart := false }
def FnExactPlaceInSaid : Prop := fnExactPlaceInRow.holds Try.pinned (OpenSpec.ofChange fnExactPlaceInSpec)

/-- ITS FALSE NEIGHBOUR: 'it returns false'. Refute it at one input. -/
def fnExactPlaceInWrong : ChangeSpec := { name := "fnExactPlaceIn", fn := fun _ => fun
  | [d1, d2, d3] => { results := [.lit (.bool false)], args := [d1, d2, d3] }
  | _ => none }
def FnExactPlaceInWrongFalsely : Prop := fnExactPlaceInRow.holds Try.pinned (OpenSpec.ofChange fnExactPlaceInWrong)

/-- 'laws.FnExactRingGame': WHATEVER THE INPUT: true; the input reads as it did. -/
def fnExactRingGameSpec : ChangeSpec := { name := "fnExactRingGame", fn := fun _ => fun
  | [d] => { results := [.lit (.bool true)], args := [d] }
  | _ => none }
def fnExactRingGameRow : OpenClaim := { program := "ytgnfnlgaocaoeaa", sum := "4462598bbf779b583e23250ce029eed99ebd8b0f4f00766d0a33beebb456aa82", func := "loop.example/g00869/laws.FnExactRingGame", spec := "fnExactRingGame", apart := false }
def FnExactRingGameSaid : Prop := fnExactRingGameRow.holds Try.pinned (OpenSpec.ofChange fnExactRingGameSpec)

/-- ITS FALSE NEIGHBOUR: 'it returns false'. Refute it at one input. -/
def fnExactRingGameWrong : ChangeSpec := { name := "fnExactRingGame", fn := fun _ => fun
  | [d] => { results := [.lit (.bool false)], args := [d] }
  | _ => none }
def FnExactRingGameWrongFalsely : Prop := fnExactRingGameRow.holds Try.pinned (OpenSpec.ofChange fnExactRingGameWrong)

/-- 'laws.FnExactTowerGame': WHATEVER THE INPUT: true; the input reads as it did. -/
def fnExactTowerGameSpec : ChangeSpec := { name := "fnExactTowerGame", fn := fun _ => fun
  | [d1, d2] => { results := [.lit (.bool true)], args := [d1, d2] }
  | _ => none }
def fnExactTowerGameRow : OpenClaim := { program := "ytgnfnlgaocaoeaa", sum := "4462598bbf779b583e23250ce029eed99ebd8b0f4f00766d0a33beebb456aa82", func := "loop.example/g00869/laws.FnExactTowerGame", spec := "fnExactTowerGame", apart := false }
def FnExactTowerGameSaid : Prop := fnExactTowerGameRow.holds Try.pinned (OpenSpec.ofChange fnExactTowerGameSpec)

/-- ITS FALSE NEIGHBOUR: 'it returns false'. Refute it at one input. -/
def fnExactTowerGameWrong : ChangeSpec := { name := "fnExactTowerGame", fn := fun _ => fun
  | [d1, d2] => { results := [.lit (.bool false)], args := [d1, d2] }
  | _ => none }
def FnExactTowerGameWrongFalsely : Prop := fnExactTowerGameRow.holds Try.pinned (OpenSpec.ofChange fnExactTowerGameWrong)

/- THE SECOND FORM. 'bulk': how many values and letters a reading holds, each counted each time it is reached (what is shared counts as often as it is met; a slice's spare places count too). A statement '..UptoSaid' is the law's where the arguments, and the package variables that the reading takes, are together of bulk at most 1048576: NARROWER than '..Said'. Prove '..Said' where nothing that the law and all that it calls make is longer than what came in: it says more and counts as full. Else prove '..UptoSaid'. A law counts once. -/
mutual
def uptoBulk {H : Type} : DataW H → Nat
  | .lit (.string bytes) => bytes.length + 1
  | .lit _ => 1
  | .nil => 1
  | .ptr d => uptoBulk d + 1
  | .slice elems spare => uptoBulkAll elems + uptoBulkAll spare + 1
  | .agg parts => uptoBulkAll parts + 1
  | .iface _ d => uptoBulk d + 1
  | .map entries => uptoBulkEntries entries + 1
  | .held _ => 1
def uptoBulkAll {H : Type} : List (DataW H) → Nat
  | [] => 0
  | d :: r => uptoBulk d + uptoBulkAll r
def uptoBulkEntries {H : Type} : List (Lit × DataW H) → Nat
  | [] => 0
  | x :: r => uptoBulkEntry x + uptoBulkEntries r
def uptoBulkEntry {H : Type} : Lit × DataW H → Nat
  | (.string bytes, d) => bytes.length + uptoBulk d + 1
  | (_, d) => uptoBulk d + 1
 end
def uptoSmall : (H : Type) → List (DataW H) → Bool := fun _ ds => decide (uptoBulkAll ds ≤ 1048576)
def OpenSpec.upto (s : _root_.Go.ChangeSpec) : _root_.Go.OpenSpec := { _root_.Go.OpenSpec.ofChange s with cond := some uptoSmall }

/-- 'laws.FnExactRecordOk', WHERE WHAT IT READS IS OF BULK AT MOST 1048576: true; the input reads as it did. -/
def fnExactRecordOkUptoRow : OpenClaim := { program := "ytgnfnlgaocaoeaa", sum := "4462598bbf779b583e23250ce029eed99ebd8b0f4f00766d0a33beebb456aa82", func := "loop.example/g00869/laws.FnExactRecordOk", spec := "fnExactRecordOk", apart := false, narrowed := true }
def FnExactRecordOkUptoSaid : Prop := fnExactRecordOkUptoRow.holds Try.pinned (OpenSpec.upto fnExactRecordOkSpec)

/-- 'laws.FnExactShapeOk', WHERE WHAT IT READS IS OF BULK AT MOST 1048576: true; the input reads as it did. -/
def fnExactShapeOkUptoRow : OpenClaim := { program := "ytgnfnlgaocaoeaa", sum := "4462598bbf779b583e23250ce029eed99ebd8b0f4f00766d0a33beebb456aa82", func := "loop.example/g00869/laws.FnExactShapeOk", spec := "fnExactShapeOk", apart := false, narrowed := true }
def FnExactShapeOkUptoSaid : Prop := fnExactShapeOkUptoRow.holds Try.pinned (OpenSpec.upto fnExactShapeOkSpec)

/-- 'laws.FnExactPairsOk', WHERE WHAT IT READS IS OF BULK AT MOST 1048576: true; the input reads as it did. -/
def fnExactPairsOkUptoRow : OpenClaim := { program := "ytgnfnlgaocaoeaa", sum := "4462598bbf779b583e23250ce029eed99ebd8b0f4f00766d0a33beebb456aa82", func := "loop.example/g00869/laws.FnExactPairsOk", spec := "fnExactPairsOk", apart := false, narrowed := true }
def FnExactPairsOkUptoSaid : Prop := fnExactPairsOkUptoRow.holds Try.pinned (OpenSpec.upto fnExactPairsOkSpec)

/-- 'laws.FnExactPlaceIn', WHERE WHAT IT READS IS OF BULK AT MOST 1048576: true; the input reads as it did. -/
def fnExactPlaceInUptoRow : OpenClaim := { program := "ytgnfnlgaocaoeaa", sum := "4462598bbf779b583e23250ce029eed99ebd8b0f4f00766d0a33beebb456aa82", func := "loop.example/g00869/laws.FnExactPlaceIn", spec := "fnExactPlaceIn", unfollowed := true, recurses := true, apart := false, narrowed := true }
def FnExactPlaceInUptoSaid : Prop := fnExactPlaceInUptoRow.holds Try.pinned (OpenSpec.upto fnExactPlaceInSpec)

/-- 'laws.FnExactRingGame', WHERE WHAT IT READS IS OF BULK AT MOST 1048576: true; the input reads as it did. -/
def fnExactRingGameUptoRow : OpenClaim := { program := "ytgnfnlgaocaoeaa", sum := "4462598bbf779b583e23250ce029eed99ebd8b0f4f00766d0a33beebb456aa82", func := "loop.example/g00869/laws.FnExactRingGame", spec := "fnExactRingGame", apart := false, narrowed := true }
def FnExactRingGameUptoSaid : Prop := fnExactRingGameUptoRow.holds Try.pinned (OpenSpec.upto fnExactRingGameSpec)

/-- 'laws.FnExactTowerGame', WHERE WHAT IT READS IS OF BULK AT MOST 1048576: true; the input reads as it did. -/
def fnExactTowerGameUptoRow : OpenClaim := { program := "ytgnfnlgaocaoeaa", sum := "4462598bbf779b583e23250ce029eed99ebd8b0f4f00766d0a33beebb456aa82", func := "loop.example/g00869/laws.FnExactTowerGame", spec := "fnExactTowerGame", apart := false, narrowed := true }
def FnExactTowerGameUptoSaid : Prop := fnExactTowerGameUptoRow.holds Try.pinned (OpenSpec.upto fnExactTowerGameSpec)

end Rows
end Go.Proofs.Ytgnfnlgaocaoeaa
