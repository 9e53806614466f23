/- TextPlan, spec and impl: contracts. -/
import Derived.Test.YtkhkdnmpbfmmeaaDoorTxtL
import Derived.Test.YtkhkdnmpbfmmeaaDoorFn5
namespace Go.Proofs.YtkhkdnmpbfmmeaaDoor
open Go.RowKit

theorem splT_len (c : UInt8) (s : ByteArray) : (splT c s).length = (spl c s.data.toList).length := by unfold splT; simp
/-- piece i -/
def gx (l : List (List UInt8)) (i : Nat) : List UInt8 := l.getD i []
theorem gx_get {l : List (List UInt8)} {i : Nat} (h : i < l.length) : gx l i = l[i] := by simp [gx, h]
theorem gt_splT (c : UInt8) (s : ByteArray) (i : Nat) : gt (splT c s) i = tx (gx (spl c s.data.toList) i) := by
  unfold gt splT gx
  rw [List.getD_eq_getElem?_getD, List.getD_eq_getElem?_getD, List.getElem?_map]
  cases (spl c s.data.toList)[i]? with
  | none => rfl
  | some x => rfl
theorem gtd (c : UInt8) (s : ByteArray) (i : Nat) : (gt (splT c s) i).data.toList = gx (spl c s.data.toList) i := by rw [gt_splT, tx_data]
theorem gx_mem {l : List (List UInt8)} {i : Nat} (h : i < l.length) : gx l i ∈ l := by rw [gx_get h]; exact List.getElem_mem _
theorem gx_all {l : List (List UInt8)} {p : List UInt8 → Prop} (h : ∀ i, i < l.length → p (gx l i)) : ∀ x ∈ l, p x := by
  intro x hx
  obtain ⟨i, hi, rfl⟩ := List.getElem_of_mem hx
  have := h i hi
  rwa [gx_get hi] at this
end Go.Proofs.YtkhkdnmpbfmmeaaDoor
