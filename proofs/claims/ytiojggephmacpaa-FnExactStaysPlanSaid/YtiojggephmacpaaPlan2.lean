/- l15Least; StayPlan, spec and impl. -/
import Derived.Test.YtiojggephmacpaaPlan
import Derived.Test.YtiojggephmacpaaStay
import Derived.Test.YtiojggephmacpaaArenaL
namespace Go.Proofs.Ytiojggephmacpaa
open Go.RowKit

theorem firstU_stay {al : Nat → Bool} {ns : List Int} {k : Nat} (h : 0 ≤ firstU al ns k) : ∀ d, firstU al ns (k + d) = firstU al ns k
  | 0 => rfl
  | d + 1 => by rw [← Nat.add_assoc, firstU, firstU_stay h d, if_neg (by omega)]
theorem firstU_at {al : Nat → Bool} {ns : List Int} {k m : Nat} (hm : gi ns k = (m : Int)) (h : firstU al ns k < 0) : firstU al ns (k + 1) = if al m = true then (m : Int) else -1 := by
  rw [firstU, if_pos h, hm]; rfl
end Go.Proofs.Ytiojggephmacpaa
