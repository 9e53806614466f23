/- TextPlan, spec and impl: contracts. -/
import Derived.Test.YtkhkdnmpbfmmeaaDoorTxtL
import Derived.Test.YtkhkdnmpbfmmeaaDoorFn5
namespace Go.Proofs.YtkhkdnmpbfmmeaaDoor
open Go.RowKit

theorem splT_len (c : UInt8) (s : ByteArray) : (splT c s).length = (spl c s.data.toList).length := by unfold splT; simp
/-- piece i -/
def gx (l : List (List UInt8)) (i : Nat) : List UInt8 := l.getD i []
theorem gt_splT (c : UInt8) (s : ByteArray) (i : Nat) : gt (splT c s) i = tx (gx (spl c s.data.toList) i) := by
  unfold gt splT gx
  rw [List.getD_eq_getElem?_getD, List.getD_eq_getElem?_getD, List.getElem?_map]
  cases (spl c s.data.toList)[i]? with
  | none => rfl
  | some x => rfl
theorem gtd (c : UInt8) (s : ByteArray) (i : Nat) : (gt (splT c s) i).data.toList = gx (spl c s.data.toList) i := by rw [gt_splT, tx_data]
end Go.Proofs.YtkhkdnmpbfmmeaaDoor
