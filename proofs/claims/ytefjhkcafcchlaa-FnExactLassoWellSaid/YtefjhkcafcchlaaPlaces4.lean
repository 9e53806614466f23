/- markPlaceS. -/
import Derived.Test.YtefjhkcafcchlaaPlaces3
import Derived.Test.YtefjhkcafcchlaaUse
namespace Go.Proofs.Ytefjhkcafcchlaa
open Go.RowKit

theorem eqQs_self (ps : List PlaceD) : eqQs ps ps = true := by simp [eqQs]
def totQ (ps : List PlaceD) : Nat := szQs ps
theorem sumQ_le (ps : List PlaceD) (k : Nat) : sumQ ps k ≤ (ps.map szQ).sum := by
  unfold sumQ
  conv => rhs; rw [← List.take_append_drop k ps]
  rw [List.map_append, List.sum_append]
  omega
end Go.Proofs.Ytefjhkcafcchlaa
