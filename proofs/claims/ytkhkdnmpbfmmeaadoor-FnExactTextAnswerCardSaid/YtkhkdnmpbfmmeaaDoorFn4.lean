/- Contracts: szInt64S; sz, to, eq of a struct of two slices. -/
import Derived.Test.YtkhkdnmpbfmmeaaDoorFn3
namespace Go.Proofs.YtkhkdnmpbfmmeaaDoor
open Go.RowKit

set_option maxHeartbeats 400000 in
theorem eqAnswer (A1 A2 A3 A4 : Option Addr) (n1 n2 n3 n4 c1 c2 c3 c4 : Nat) (x1 x2 x3 x4 : List Int) (w : World) (B : Nat) (hB : B ≤ w.heap.size) (h1 : RI w A1 n1 c1 x1) (h2 : RI w A2 n2 c2 x2) (h3 : RI w A3 n3 c3 x3) (h4 : RI w A4 n4 c4 x4) :
    Calls Tryd.prog 16 #[.agg #[.slice A1 n1 c1, .slice A2 n2 c2], .agg #[.slice A3 n3 c3, .slice A4 n4 c4]] w fun e w' => e = .returned (.bool (eqL x1 x3 && eqL x2 x4)) ∧ Below B w w' := by
  by_cases e1 : eqL x1 x3 = true
  · by_cases e2 : eqL x2 x4 = true
    · have E := Lib.hid (show (eqL x1 x3 && eqL x2 x4) = true by rw [e1, e2]; rfl)
      go_enter Tryd.func16, Tryd.ntmps16
      go_wp2_with fail
      refine (eqInts _ _ _ _ _ _ _ _ _ (h1.keep (keeps_below ?_)) (h3.keep (keeps_below ?_))).mono ?_
      · repeat (first | exact Below.refl _ _ | refine below_alloc (Nat.le_refl _) ?_)
      · repeat (first | exact Below.refl _ _ | refine below_alloc (Nat.le_refl _) ?_)
      rintro e w1 ⟨rfl, q, rfl⟩
      go_wp2_with fail
      refine (eqInts _ _ _ _ _ _ _ _ _ (h2.keep (keeps_below ?_)) (h4.keep (keeps_below ?_))).mono ?_
      · repeat (first | exact Below.refl _ _ | refine below_drewN ?_ _ | refine below_alloc (Nat.le_refl _) ?_)
      · repeat (first | exact Below.refl _ _ | refine below_drewN ?_ _ | refine below_alloc (Nat.le_refl _) ?_)
      rintro e w2 ⟨rfl, q2, rfl⟩
      go_wp2
      go_ret
      refine ⟨ret_b E.out.symm, ?_⟩
      repeat (first | exact Below.refl _ _ | refine below_drewN ?_ _ | refine below_alloc hB ?_)
    · replace e2 : eqL x2 x4 = false := by simpa using e2
      have E := Lib.hid (show (eqL x1 x3 && eqL x2 x4) = false by rw [e1, e2]; rfl)
      go_enter Tryd.func16, Tryd.ntmps16
      go_wp2_with fail
      refine (eqInts _ _ _ _ _ _ _ _ _ (h1.keep (keeps_below ?_)) (h3.keep (keeps_below ?_))).mono ?_
      · repeat (first | exact Below.refl _ _ | refine below_alloc (Nat.le_refl _) ?_)
      · repeat (first | exact Below.refl _ _ | refine below_alloc (Nat.le_refl _) ?_)
      rintro e w1 ⟨rfl, q, rfl⟩
      go_wp2_with fail
      refine (eqInts _ _ _ _ _ _ _ _ _ (h2.keep (keeps_below ?_)) (h4.keep (keeps_below ?_))).mono ?_
      · repeat (first | exact Below.refl _ _ | refine below_drewN ?_ _ | refine below_alloc (Nat.le_refl _) ?_)
      · repeat (first | exact Below.refl _ _ | refine below_drewN ?_ _ | refine below_alloc (Nat.le_refl _) ?_)
      rintro e w2 ⟨rfl, q2, rfl⟩
      go_wp2
      go_ret
      refine ⟨ret_b E.out.symm, ?_⟩
      repeat (first | exact Below.refl _ _ | refine below_drewN ?_ _ | refine below_alloc hB ?_)
  · replace e1 : eqL x1 x3 = false := by simpa using e1
    have E := Lib.hid (show (eqL x1 x3 && eqL x2 x4) = false by rw [e1]; rfl)
    go_enter Tryd.func16, Tryd.ntmps16
    go_wp2_with fail
    refine (eqInts _ _ _ _ _ _ _ _ _ (h1.keep (keeps_below ?_)) (h3.keep (keeps_below ?_))).mono ?_
    · repeat (first | exact Below.refl _ _ | refine below_alloc (Nat.le_refl _) ?_)
    · repeat (first | exact Below.refl _ _ | refine below_alloc (Nat.le_refl _) ?_)
    rintro e w1 ⟨rfl, q, rfl⟩
    go_wp2
    go_ret
    refine ⟨ret_b E.out.symm, ?_⟩
    repeat (first | exact Below.refl _ _ | refine below_drewN ?_ _ | refine below_alloc hB ?_)


end Go.Proofs.YtkhkdnmpbfmmeaaDoor
