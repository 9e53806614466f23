/- impl.AllOf, impl.lessOf. -/
import Derived.Test.YtkhkdnmpbfmmeaaDoorSearch
import Derived.Test.YtkhkdnmpbfmmeaaDoorPick
namespace Go.Proofs.YtkhkdnmpbfmmeaaDoor
open Go.RowKit

/-- rising numbers: what BinarySearch asks -/
def rises (xs : List Int) : Prop := ∀ i j, i < j → j < xs.length → gi xs i < gi xs j
theorem rises_set {xs : List Int} {n : Int} (h : setB xs n = true) : rises xs := by
  have h' := setB_true.1 h
  intro i j hij hj
  induction j with
  | zero => omega
  | succ j ih =>
    have h2 := (h' (j + 1) hj).2.2 (by omega)
    rw [show j + 1 - 1 = j from rfl] at h2
    by_cases e : i = j
    · subst e; exact h2
    · have := ih (by omega) (by omega); omega
end Go.Proofs.YtkhkdnmpbfmmeaaDoor
