/- Slices of places: sz, to, eq. -/
import Derived.Test.YtefjhkcafcchlaaPlaces
import Derived.Deep.RegionHeld3
namespace Go.Proofs.Ytefjhkcafcchlaa
open Go.RowKit

def szQ (p : PlaceD) : Nat := p.2.length
def sumQ (ps : List PlaceD) (k : Nat) : Nat := ((ps.take k).map szQ).sum
def szQs (ps : List PlaceD) : Nat := ps.length + (ps.map szQ).sum
theorem sumQ_succ {ps : List PlaceD} {k : Nat} (h : k < ps.length) : sumQ ps (k + 1) = sumQ ps k + szQ (gq ps k) := by
  unfold sumQ
  rw [List.take_succ_eq_append_getElem h, List.map_append, List.sum_append, gq_get h]
  simp
theorem sumQ_all {ps : List PlaceD} {k : Nat} (h : ps.length = k) : szQs ps = k + sumQ ps k := by
  unfold sumQ szQs
  rw [← h, List.take_length]
theorem sumQ_mono {ps : List PlaceD} {k m : Nat} (h : k ≤ m) : sumQ ps k ≤ sumQ ps m := by
  have key : ∀ (qs : List PlaceD) (k : Nat), ((qs.take k).map szQ).sum ≤ (qs.map szQ).sum := by
    intro qs
    induction qs with
    | nil => simp
    | cons a r ih =>
      intro k
      cases k with
      | zero => simp
      | succ k => simp only [List.take_succ_cons, List.map_cons, List.sum_cons]; have := ih k; omega
  unfold sumQ
  rw [show ps.take k = (ps.take m).take k from by rw [List.take_take, Nat.min_eq_left h]]
  exact key _ _

def eqQs (ps qs : List PlaceD) : Bool := decide (ps = qs)
end Go.Proofs.Ytefjhkcafcchlaa
