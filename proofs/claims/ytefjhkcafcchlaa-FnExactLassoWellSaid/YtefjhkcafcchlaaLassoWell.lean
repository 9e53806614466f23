/- FnExactLassoWell: for every input the law returns true, and each argument reads as it read before. No condition. -/
import Derived.Test.YtefjhkcafcchlaaLassoW3
import Derived.Test.YtefjhkcafcchlaaLasso
import Derived.Test.YtefjhkcafcchlaaPairs4
import Derived.Test.YtefjhkcafcchlaaOpenP
import Derived.Test.YtefjhkcafcchlaaOpenA
import Derived.Test.YtefjhkcafcchlaaOpen
import Derived.Deep.RegionHeld3
namespace Go.Proofs.Ytefjhkcafcchlaa.fnExactLassoWell
open Go.ChangeShapes Go.WideShapes Go.ChangeAt Go.RowKit

set_option maxRecDepth 100000 in
set_option maxHeartbeats 1600000 in
theorem walk (A0a A0b : Option Addr) (n0a c0a n0b c0b : Nat) (z0 : ArD) (A1 : Option Addr) (n1 c1 : Nat) (z1 : List PairD) (A2a A2b : Option Addr) (n2a c2a n2b c2b : Nat) (z2 : TwoD) (w : World) (ha0 : RAv w (.slice A0a n0a c0a) (.slice A0b n0b c0b) z0.1 z0.2) (ha1 : RPS w A1 n1 c1 z1) (ha2 : RTv w (.slice A2a n2a c2a) (.slice A2b n2b c2b) z2) :
    Calls Try.prog 14 #[.agg #[.slice A0a n0a c0a, .slice A0b n0b c0b], .slice A1 n1 c1, .agg #[.slice A2a n2a c2a, .slice A2b n2b c2b]] w fun e w' => e = .returned (.bool true) ∧ Below w.heap.size w w' := by
  have b1 := ha1.cap; have t1 := ha1.top
  by_cases hy0 : ¬ (((szAr z0) : Nat) : Int) ≤ 1048576
  · have E0 := Lib.hid (szF_no hy0)
    have hww := Below.refl w.heap.size w
    go_enter Try.func14, Try.ntmps14
    go_wp2_with fail
    have hww1 : Below w.heap.size w (w.alloc (.cells #[.slice A0a n0a c0a, .slice A0b n0b c0b] 60)) := below_alloc (Nat.le_refl _) hww
    have zw1 : w.heap.size + 1 = (w.alloc (.cells #[.slice A0a n0a c0a, .slice A0b n0b c0b] 60)).heap.size := by simp
    have bxP0 := Box.new w 60 #[.slice A0a n0a c0a, .slice A0b n0b c0b]
    generalize (w.alloc (.cells #[.slice A0a n0a c0a, .slice A0b n0b c0b] 60)) = w1 at hww1 zw1 bxP0 ⊢
    have hww2 : Below w.heap.size w (w1.alloc (.cells #[.slice A2a n2a c2a, .slice A2b n2b c2b] 86)) := below_alloc (Nat.le_refl _) hww1
    have zw2 : w1.heap.size + 1 = (w1.alloc (.cells #[.slice A2a n2a c2a, .slice A2b n2b c2b] 86)).heap.size := by simp
    replace bxP0 := bxP0.alloc (.cells #[.slice A2a n2a c2a, .slice A2b n2b c2b] 86)
    have bxP2 := Box.new w1 86 #[.slice A2a n2a c2a, .slice A2b n2b c2b]
    generalize (w1.alloc (.cells #[.slice A2a n2a c2a, .slice A2b n2b c2b] 86)) = w2 at hww2 zw2 bxP0 bxP2 ⊢
    refine (szArena _ _ _ _ _ _ (Nat.le_refl _) (ha0.keep (keeps_below hww2)) (by omega) (by omega)).mono ?_; rintro e w3 ⟨rfl, hbw3⟩
    have zw3 := hbw3.size
    have hww3 := below_then hbw3 hww2.size hww2
    replace bxP0 := bxP0.below hbw3 bxP0.lt
    replace bxP2 := bxP2.below hbw3 bxP2.lt
    rw [E0.out]
    go_wp2
    go_ret
    exact ⟨rfl, hww3⟩
  have hz0 : (((szAr z0) : Nat) : Int) ≤ 1048576 := by omega
  have hm0 : (szAr z0) ≤ 1048576 := by omega
  have E0 := Lib.hid (szF_yes hz0)
  clear hy0
  by_cases hy1 : ¬ ((szPs z1 : Nat) : Int) ≤ 1048576 - (((szAr z0) : Nat) : Int)
  · have E1 := Lib.hid (szF_no hy1)
    have hww := Below.refl w.heap.size w
    go_enter Try.func14, Try.ntmps14
    go_wp2_with fail
    have hww1 : Below w.heap.size w (w.alloc (.cells #[.slice A0a n0a c0a, .slice A0b n0b c0b] 60)) := below_alloc (Nat.le_refl _) hww
    have zw1 : w.heap.size + 1 = (w.alloc (.cells #[.slice A0a n0a c0a, .slice A0b n0b c0b] 60)).heap.size := by simp
    have bxP0 := Box.new w 60 #[.slice A0a n0a c0a, .slice A0b n0b c0b]
    generalize (w.alloc (.cells #[.slice A0a n0a c0a, .slice A0b n0b c0b] 60)) = w1 at hww1 zw1 bxP0 ⊢
    have hww2 : Below w.heap.size w (w1.alloc (.cells #[.slice A2a n2a c2a, .slice A2b n2b c2b] 86)) := below_alloc (Nat.le_refl _) hww1
    have zw2 : w1.heap.size + 1 = (w1.alloc (.cells #[.slice A2a n2a c2a, .slice A2b n2b c2b] 86)).heap.size := by simp
    replace bxP0 := bxP0.alloc (.cells #[.slice A2a n2a c2a, .slice A2b n2b c2b] 86)
    have bxP2 := Box.new w1 86 #[.slice A2a n2a c2a, .slice A2b n2b c2b]
    generalize (w1.alloc (.cells #[.slice A2a n2a c2a, .slice A2b n2b c2b] 86)) = w2 at hww2 zw2 bxP0 bxP2 ⊢
    refine (szArena _ _ _ _ _ _ (Nat.le_refl _) (ha0.keep (keeps_below hww2)) (by omega) (by omega)).mono ?_; rintro e w3 ⟨rfl, hbw3⟩
    have zw3 := hbw3.size
    have hww3 := below_then hbw3 hww2.size hww2
    replace bxP0 := bxP0.below hbw3 bxP0.lt
    replace bxP2 := bxP2.below hbw3 bxP2.lt
    rw [E0.out]
    have qP00 : w3.cell? ⟨w.heap.size, 0, none⟩ = some (.slice A0a n0a c0a) := bxP0.cell 0
    have pP00 : ∀ o, (w3.alloc o).cell? ⟨w.heap.size, 0, none⟩ = some (.slice A0a n0a c0a) := fun o => keepA qP00
    have rP00 : w.heap.size < w3.heap.size := bxP0.lt
    have qP01 : w3.cell? ⟨w.heap.size, 1, none⟩ = some (.slice A0b n0b c0b) := bxP0.cell 1
    have pP01 : ∀ o, (w3.alloc o).cell? ⟨w.heap.size, 1, none⟩ = some (.slice A0b n0b c0b) := fun o => keepA qP01
    have rP01 : w.heap.size < w3.heap.size := bxP0.lt
    have qP20 : w3.cell? ⟨w1.heap.size, 0, none⟩ = some (.slice A2a n2a c2a) := bxP2.cell 0
    have pP20 : ∀ o, (w3.alloc o).cell? ⟨w1.heap.size, 0, none⟩ = some (.slice A2a n2a c2a) := fun o => keepA qP20
    have rP20 : w1.heap.size < w3.heap.size := bxP2.lt
    have qP21 : w3.cell? ⟨w1.heap.size, 1, none⟩ = some (.slice A2b n2b c2b) := bxP2.cell 1
    have pP21 : ∀ o, (w3.alloc o).cell? ⟨w1.heap.size, 1, none⟩ = some (.slice A2b n2b c2b) := fun o => keepA qP21
    have rP21 : w1.heap.size < w3.heap.size := bxP2.lt
    go_wp2_with fail
    clear qP00 pP00 rP00 qP01 pP01 rP01 qP20 pP20 rP20 qP21 pP21 rP21
    refine (szPairS _ _ _ _ _ _ _ (Nat.le_refl _) (ha1.keep (keeps_below hww3)) (by omega) (by omega)).mono ?_; rintro e w4 ⟨rfl, hbw4⟩
    have zw4 := hbw4.size
    have hww4 := below_then hbw4 hww3.size hww3
    replace bxP0 := bxP0.below hbw4 bxP0.lt
    replace bxP2 := bxP2.below hbw4 bxP2.lt
    rw [E1.out]
    go_wp2
    go_ret
    exact ⟨rfl, hww4⟩
  have hz1 : ((szPs z1 : Nat) : Int) ≤ 1048576 - (((szAr z0) : Nat) : Int) := by omega
  have hm1 : szPs z1 ≤ 1048576 := by omega
  have E1 := Lib.hid (szF_yes hz1)
  clear hy1
  by_cases hy2 : ¬ (((szT z2) : Nat) : Int) ≤ 1048576 - (((szAr z0) : Nat) : Int) - ((szPs z1 : Nat) : Int)
  · have E2 := Lib.hid (szF_no hy2)
    have hww := Below.refl w.heap.size w
    go_enter Try.func14, Try.ntmps14
    go_wp2_with fail
    have hww1 : Below w.heap.size w (w.alloc (.cells #[.slice A0a n0a c0a, .slice A0b n0b c0b] 60)) := below_alloc (Nat.le_refl _) hww
    have zw1 : w.heap.size + 1 = (w.alloc (.cells #[.slice A0a n0a c0a, .slice A0b n0b c0b] 60)).heap.size := by simp
    have bxP0 := Box.new w 60 #[.slice A0a n0a c0a, .slice A0b n0b c0b]
    generalize (w.alloc (.cells #[.slice A0a n0a c0a, .slice A0b n0b c0b] 60)) = w1 at hww1 zw1 bxP0 ⊢
    have hww2 : Below w.heap.size w (w1.alloc (.cells #[.slice A2a n2a c2a, .slice A2b n2b c2b] 86)) := below_alloc (Nat.le_refl _) hww1
    have zw2 : w1.heap.size + 1 = (w1.alloc (.cells #[.slice A2a n2a c2a, .slice A2b n2b c2b] 86)).heap.size := by simp
    replace bxP0 := bxP0.alloc (.cells #[.slice A2a n2a c2a, .slice A2b n2b c2b] 86)
    have bxP2 := Box.new w1 86 #[.slice A2a n2a c2a, .slice A2b n2b c2b]
    generalize (w1.alloc (.cells #[.slice A2a n2a c2a, .slice A2b n2b c2b] 86)) = w2 at hww2 zw2 bxP0 bxP2 ⊢
    refine (szArena _ _ _ _ _ _ (Nat.le_refl _) (ha0.keep (keeps_below hww2)) (by omega) (by omega)).mono ?_; rintro e w3 ⟨rfl, hbw3⟩
    have zw3 := hbw3.size
    have hww3 := below_then hbw3 hww2.size hww2
    replace bxP0 := bxP0.below hbw3 bxP0.lt
    replace bxP2 := bxP2.below hbw3 bxP2.lt
    rw [E0.out]
    have qP00 : w3.cell? ⟨w.heap.size, 0, none⟩ = some (.slice A0a n0a c0a) := bxP0.cell 0
    have pP00 : ∀ o, (w3.alloc o).cell? ⟨w.heap.size, 0, none⟩ = some (.slice A0a n0a c0a) := fun o => keepA qP00
    have rP00 : w.heap.size < w3.heap.size := bxP0.lt
    have qP01 : w3.cell? ⟨w.heap.size, 1, none⟩ = some (.slice A0b n0b c0b) := bxP0.cell 1
    have pP01 : ∀ o, (w3.alloc o).cell? ⟨w.heap.size, 1, none⟩ = some (.slice A0b n0b c0b) := fun o => keepA qP01
    have rP01 : w.heap.size < w3.heap.size := bxP0.lt
    have qP20 : w3.cell? ⟨w1.heap.size, 0, none⟩ = some (.slice A2a n2a c2a) := bxP2.cell 0
    have pP20 : ∀ o, (w3.alloc o).cell? ⟨w1.heap.size, 0, none⟩ = some (.slice A2a n2a c2a) := fun o => keepA qP20
    have rP20 : w1.heap.size < w3.heap.size := bxP2.lt
    have qP21 : w3.cell? ⟨w1.heap.size, 1, none⟩ = some (.slice A2b n2b c2b) := bxP2.cell 1
    have pP21 : ∀ o, (w3.alloc o).cell? ⟨w1.heap.size, 1, none⟩ = some (.slice A2b n2b c2b) := fun o => keepA qP21
    have rP21 : w1.heap.size < w3.heap.size := bxP2.lt
    go_wp2_with fail
    clear qP00 pP00 rP00 qP01 pP01 rP01 qP20 pP20 rP20 qP21 pP21 rP21
    refine (szPairS _ _ _ _ _ _ _ (Nat.le_refl _) (ha1.keep (keeps_below hww3)) (by omega) (by omega)).mono ?_; rintro e w4 ⟨rfl, hbw4⟩
    have zw4 := hbw4.size
    have hww4 := below_then hbw4 hww3.size hww3
    replace bxP0 := bxP0.below hbw4 bxP0.lt
    replace bxP2 := bxP2.below hbw4 bxP2.lt
    rw [E1.out]
    have qP00 : w4.cell? ⟨w.heap.size, 0, none⟩ = some (.slice A0a n0a c0a) := bxP0.cell 0
    have pP00 : ∀ o, (w4.alloc o).cell? ⟨w.heap.size, 0, none⟩ = some (.slice A0a n0a c0a) := fun o => keepA qP00
    have rP00 : w.heap.size < w4.heap.size := bxP0.lt
    have qP01 : w4.cell? ⟨w.heap.size, 1, none⟩ = some (.slice A0b n0b c0b) := bxP0.cell 1
    have pP01 : ∀ o, (w4.alloc o).cell? ⟨w.heap.size, 1, none⟩ = some (.slice A0b n0b c0b) := fun o => keepA qP01
    have rP01 : w.heap.size < w4.heap.size := bxP0.lt
    have qP20 : w4.cell? ⟨w1.heap.size, 0, none⟩ = some (.slice A2a n2a c2a) := bxP2.cell 0
    have pP20 : ∀ o, (w4.alloc o).cell? ⟨w1.heap.size, 0, none⟩ = some (.slice A2a n2a c2a) := fun o => keepA qP20
    have rP20 : w1.heap.size < w4.heap.size := bxP2.lt
    have qP21 : w4.cell? ⟨w1.heap.size, 1, none⟩ = some (.slice A2b n2b c2b) := bxP2.cell 1
    have pP21 : ∀ o, (w4.alloc o).cell? ⟨w1.heap.size, 1, none⟩ = some (.slice A2b n2b c2b) := fun o => keepA qP21
    have rP21 : w1.heap.size < w4.heap.size := bxP2.lt
    go_wp2_with fail
    clear qP00 pP00 rP00 qP01 pP01 rP01 qP20 pP20 rP20 qP21 pP21 rP21
    refine (szLassoT _ _ _ _ _ _ (Nat.le_refl _) (ha2.keep (keeps_below hww4)) (by omega) (by omega)).mono ?_; rintro e w5 ⟨rfl, hbw5⟩
    have zw5 := hbw5.size
    have hww5 := below_then hbw5 hww4.size hww4
    replace bxP0 := bxP0.below hbw5 bxP0.lt
    replace bxP2 := bxP2.below hbw5 bxP2.lt
    rw [E2.out]
    go_wp2
    go_ret
    exact ⟨rfl, hww5⟩
  have hz2 : (((szT z2) : Nat) : Int) ≤ 1048576 - (((szAr z0) : Nat) : Int) - ((szPs z1 : Nat) : Int) := by omega
  have hm2 : (szT z2) ≤ 1048576 := by omega
  have E2 := Lib.hid (szF_yes hz2)
  clear hy2
  have hww := Below.refl w.heap.size w
  go_enter Try.func14, Try.ntmps14
  go_wp2_with fail
  have hww1 : Below w.heap.size w (w.alloc (.cells #[.slice A0a n0a c0a, .slice A0b n0b c0b] 60)) := below_alloc (Nat.le_refl _) hww
  have zw1 : w.heap.size + 1 = (w.alloc (.cells #[.slice A0a n0a c0a, .slice A0b n0b c0b] 60)).heap.size := by simp
  have bxP0 := Box.new w 60 #[.slice A0a n0a c0a, .slice A0b n0b c0b]
  generalize (w.alloc (.cells #[.slice A0a n0a c0a, .slice A0b n0b c0b] 60)) = w1 at hww1 zw1 bxP0 ⊢
  have hww2 : Below w.heap.size w (w1.alloc (.cells #[.slice A2a n2a c2a, .slice A2b n2b c2b] 86)) := below_alloc (Nat.le_refl _) hww1
  have zw2 : w1.heap.size + 1 = (w1.alloc (.cells #[.slice A2a n2a c2a, .slice A2b n2b c2b] 86)).heap.size := by simp
  replace bxP0 := bxP0.alloc (.cells #[.slice A2a n2a c2a, .slice A2b n2b c2b] 86)
  have bxP2 := Box.new w1 86 #[.slice A2a n2a c2a, .slice A2b n2b c2b]
  generalize (w1.alloc (.cells #[.slice A2a n2a c2a, .slice A2b n2b c2b] 86)) = w2 at hww2 zw2 bxP0 bxP2 ⊢
  refine (szArena _ _ _ _ _ _ (Nat.le_refl _) (ha0.keep (keeps_below hww2)) (by omega) (by omega)).mono ?_; rintro e w3 ⟨rfl, hbw3⟩
  have zw3 := hbw3.size
  have hww3 := below_then hbw3 hww2.size hww2
  replace bxP0 := bxP0.below hbw3 bxP0.lt
  replace bxP2 := bxP2.below hbw3 bxP2.lt
  rw [E0.out]
  have qP00 : w3.cell? ⟨w.heap.size, 0, none⟩ = some (.slice A0a n0a c0a) := bxP0.cell 0
  have pP00 : ∀ o, (w3.alloc o).cell? ⟨w.heap.size, 0, none⟩ = some (.slice A0a n0a c0a) := fun o => keepA qP00
  have rP00 : w.heap.size < w3.heap.size := bxP0.lt
  have qP01 : w3.cell? ⟨w.heap.size, 1, none⟩ = some (.slice A0b n0b c0b) := bxP0.cell 1
  have pP01 : ∀ o, (w3.alloc o).cell? ⟨w.heap.size, 1, none⟩ = some (.slice A0b n0b c0b) := fun o => keepA qP01
  have rP01 : w.heap.size < w3.heap.size := bxP0.lt
  have qP20 : w3.cell? ⟨w1.heap.size, 0, none⟩ = some (.slice A2a n2a c2a) := bxP2.cell 0
  have pP20 : ∀ o, (w3.alloc o).cell? ⟨w1.heap.size, 0, none⟩ = some (.slice A2a n2a c2a) := fun o => keepA qP20
  have rP20 : w1.heap.size < w3.heap.size := bxP2.lt
  have qP21 : w3.cell? ⟨w1.heap.size, 1, none⟩ = some (.slice A2b n2b c2b) := bxP2.cell 1
  have pP21 : ∀ o, (w3.alloc o).cell? ⟨w1.heap.size, 1, none⟩ = some (.slice A2b n2b c2b) := fun o => keepA qP21
  have rP21 : w1.heap.size < w3.heap.size := bxP2.lt
  go_wp2_with fail
  clear qP00 pP00 rP00 qP01 pP01 rP01 qP20 pP20 rP20 qP21 pP21 rP21
  refine (szPairS _ _ _ _ _ _ _ (Nat.le_refl _) (ha1.keep (keeps_below hww3)) (by omega) (by omega)).mono ?_; rintro e w4 ⟨rfl, hbw4⟩
  have zw4 := hbw4.size
  have hww4 := below_then hbw4 hww3.size hww3
  replace bxP0 := bxP0.below hbw4 bxP0.lt
  replace bxP2 := bxP2.below hbw4 bxP2.lt
  rw [E1.out]
  have qP00 : w4.cell? ⟨w.heap.size, 0, none⟩ = some (.slice A0a n0a c0a) := bxP0.cell 0
  have pP00 : ∀ o, (w4.alloc o).cell? ⟨w.heap.size, 0, none⟩ = some (.slice A0a n0a c0a) := fun o => keepA qP00
  have rP00 : w.heap.size < w4.heap.size := bxP0.lt
  have qP01 : w4.cell? ⟨w.heap.size, 1, none⟩ = some (.slice A0b n0b c0b) := bxP0.cell 1
  have pP01 : ∀ o, (w4.alloc o).cell? ⟨w.heap.size, 1, none⟩ = some (.slice A0b n0b c0b) := fun o => keepA qP01
  have rP01 : w.heap.size < w4.heap.size := bxP0.lt
  have qP20 : w4.cell? ⟨w1.heap.size, 0, none⟩ = some (.slice A2a n2a c2a) := bxP2.cell 0
  have pP20 : ∀ o, (w4.alloc o).cell? ⟨w1.heap.size, 0, none⟩ = some (.slice A2a n2a c2a) := fun o => keepA qP20
  have rP20 : w1.heap.size < w4.heap.size := bxP2.lt
  have qP21 : w4.cell? ⟨w1.heap.size, 1, none⟩ = some (.slice A2b n2b c2b) := bxP2.cell 1
  have pP21 : ∀ o, (w4.alloc o).cell? ⟨w1.heap.size, 1, none⟩ = some (.slice A2b n2b c2b) := fun o => keepA qP21
  have rP21 : w1.heap.size < w4.heap.size := bxP2.lt
  go_wp2_with fail
  clear qP00 pP00 rP00 qP01 pP01 rP01 qP20 pP20 rP20 qP21 pP21 rP21
  refine (szLassoT _ _ _ _ _ _ (Nat.le_refl _) (ha2.keep (keeps_below hww4)) (by omega) (by omega)).mono ?_; rintro e w5 ⟨rfl, hbw5⟩
  have zw5 := hbw5.size
  have hww5 := below_then hbw5 hww4.size hww4
  replace bxP0 := bxP0.below hbw5 bxP0.lt
  replace bxP2 := bxP2.below hbw5 bxP2.lt
  rw [E2.out]
  have qP00 : w5.cell? ⟨w.heap.size, 0, none⟩ = some (.slice A0a n0a c0a) := bxP0.cell 0
  have pP00 : ∀ o, (w5.alloc o).cell? ⟨w.heap.size, 0, none⟩ = some (.slice A0a n0a c0a) := fun o => keepA qP00
  have rP00 : w.heap.size < w5.heap.size := bxP0.lt
  have qP01 : w5.cell? ⟨w.heap.size, 1, none⟩ = some (.slice A0b n0b c0b) := bxP0.cell 1
  have pP01 : ∀ o, (w5.alloc o).cell? ⟨w.heap.size, 1, none⟩ = some (.slice A0b n0b c0b) := fun o => keepA qP01
  have rP01 : w.heap.size < w5.heap.size := bxP0.lt
  have qP20 : w5.cell? ⟨w1.heap.size, 0, none⟩ = some (.slice A2a n2a c2a) := bxP2.cell 0
  have pP20 : ∀ o, (w5.alloc o).cell? ⟨w1.heap.size, 0, none⟩ = some (.slice A2a n2a c2a) := fun o => keepA qP20
  have rP20 : w1.heap.size < w5.heap.size := bxP2.lt
  have qP21 : w5.cell? ⟨w1.heap.size, 1, none⟩ = some (.slice A2b n2b c2b) := bxP2.cell 1
  have pP21 : ∀ o, (w5.alloc o).cell? ⟨w1.heap.size, 1, none⟩ = some (.slice A2b n2b c2b) := fun o => keepA qP21
  have rP21 : w1.heap.size < w5.heap.size := bxP2.lt
  go_wp2_with fail
  clear qP00 pP00 rP00 qP01 pP01 rP01 qP20 pP20 rP20 qP21 pP21 rP21
  have qP00 : w5.cell? ⟨w.heap.size, 0, none⟩ = some (.slice A0a n0a c0a) := bxP0.cell 0
  have qP01 : w5.cell? ⟨w.heap.size, 1, none⟩ = some (.slice A0b n0b c0b) := bxP0.cell 1
  have rP0 : w.heap.size < w5.heap.size := bxP0.lt
  have qP20 : w5.cell? ⟨w1.heap.size, 0, none⟩ = some (.slice A2a n2a c2a) := bxP2.cell 0
  have qP21 : w5.cell? ⟨w1.heap.size, 1, none⟩ = some (.slice A2b n2b c2b) := bxP2.cell 1
  have rP2 : w1.heap.size < w5.heap.size := bxP2.lt
  go_region_held3 (fun w' => w'.cell? ⟨w.heap.size, 0, none⟩ = some (.slice A0a n0a c0a) ∧ w'.cell? ⟨w.heap.size, 1, none⟩ = some (.slice A0b n0b c0b) ∧ w'.cell? ⟨w1.heap.size, 0, none⟩ = some (.slice A2a n2a c2a) ∧ w'.cell? ⟨w1.heap.size, 1, none⟩ = some (.slice A2b n2b c2b))
    (refine ⟨?_, ?_, ?_, ?_⟩ <;> repeat (first | with_reducible assumption | with_reducible refine keepD ?_ | with_reducible refine keepA ?_))
    (first
      | (go_at_call 77
         refine (toArena _ _ _ _ _ (Nat.le_refl _) (ha0.keep (keeps_below (Below.drew hww5))) hm0).mono ?_; rintro e w6 ⟨vy0a, vy0b, rfl, oy0, hbw6⟩
         replace hbw6 := below_undrew hbw6
         obtain ⟨Ay0a, cy0a, Ay0b, cy0b, rfl, rfl⟩ := oy0.form
         have zw6 := hbw6.size
         have hww6 := below_then hbw6 hww5.size hww5
         replace bxP0 := bxP0.below hbw6 bxP0.lt
         replace bxP2 := bxP2.below hbw6 bxP2.lt
         have fy0 := Far.refl w5.heap.size w6
         have qP00 : w6.cell? ⟨w.heap.size, 0, none⟩ = some (.slice A0a n0a c0a) := bxP0.cell 0
         have qP01 : w6.cell? ⟨w.heap.size, 1, none⟩ = some (.slice A0b n0b c0b) := bxP0.cell 1
         have rP0 : w.heap.size < w6.heap.size := bxP0.lt
         have qP20 : w6.cell? ⟨w1.heap.size, 0, none⟩ = some (.slice A2a n2a c2a) := bxP2.cell 0
         have qP21 : w6.cell? ⟨w1.heap.size, 1, none⟩ = some (.slice A2b n2b c2b) := bxP2.cell 1
         have rP2 : w1.heap.size < w6.heap.size := bxP2.lt)
      | (go_at_call 78
         refine (toPairS _ _ _ _ _ _ (Nat.le_refl _) (ha1.keep (keeps_below hww6)) hm1).mono ?_; rintro e w7 ⟨vy1, rfl, oy1, hbw7⟩
         obtain ⟨Ay1, cy1, rfl⟩ := oy1.form
         have zw7 := hbw7.size
         have hww7 := below_then hbw7 hww6.size hww6
         replace fy0 := fy0.step hbw7
         replace bxP0 := bxP0.below hbw7 bxP0.lt
         replace bxP2 := bxP2.below hbw7 bxP2.lt
         have fy1 := Far.refl w6.heap.size w7
         have qP00 : w7.cell? ⟨w.heap.size, 0, none⟩ = some (.slice A0a n0a c0a) := bxP0.cell 0
         have qP01 : w7.cell? ⟨w.heap.size, 1, none⟩ = some (.slice A0b n0b c0b) := bxP0.cell 1
         have rP0 : w.heap.size < w7.heap.size := bxP0.lt
         have qP20 : w7.cell? ⟨w1.heap.size, 0, none⟩ = some (.slice A2a n2a c2a) := bxP2.cell 0
         have qP21 : w7.cell? ⟨w1.heap.size, 1, none⟩ = some (.slice A2b n2b c2b) := bxP2.cell 1
         have rP2 : w1.heap.size < w7.heap.size := bxP2.lt)
      | (go_at_call 79
         refine (toLassoT _ _ _ _ _ (Nat.le_refl _) (ha2.keep (keeps_below hww7)) hm2).mono ?_; rintro e w8 ⟨vy2a, vy2b, rfl, oy2, hbw8⟩
         obtain ⟨Ay2a, cy2a, Ay2b, cy2b, rfl, rfl⟩ := oy2.form
         have zw8 := hbw8.size
         have hww8 := below_then hbw8 hww7.size hww7
         replace fy0 := fy0.step hbw8
         replace fy1 := fy1.step hbw8
         replace bxP0 := bxP0.below hbw8 bxP0.lt
         replace bxP2 := bxP2.below hbw8 bxP2.lt
         have fy2 := Far.refl w7.heap.size w8
         have qP00 : w8.cell? ⟨w.heap.size, 0, none⟩ = some (.slice A0a n0a c0a) := bxP0.cell 0
         have qP01 : w8.cell? ⟨w.heap.size, 1, none⟩ = some (.slice A0b n0b c0b) := bxP0.cell 1
         have rP0 : w.heap.size < w8.heap.size := bxP0.lt
         have qP20 : w8.cell? ⟨w1.heap.size, 0, none⟩ = some (.slice A2a n2a c2a) := bxP2.cell 0
         have qP21 : w8.cell? ⟨w1.heap.size, 1, none⟩ = some (.slice A2b n2b c2b) := bxP2.cell 1
         have rP2 : w1.heap.size < w8.heap.size := bxP2.lt)
      | (go_at_call 76
         refine (specLassoWell _ _ _ _ _ _ _ _ _ _ _ _ (Nat.le_refl _) (oy0.hold fy0).reads (oy1.hold fy1).reads (oy2.hold fy2).reads).mono ?_; rintro e w9 ⟨rfl, hbw9⟩
         have zw9 := hbw9.size
         have hww9 := below_then hbw9 hww8.size hww8
         replace fy0 := fy0.step hbw9
         replace fy1 := fy1.step hbw9
         replace fy2 := fy2.step hbw9
         replace bxP0 := bxP0.below hbw9 bxP0.lt
         replace bxP2 := bxP2.below hbw9 bxP2.lt
         have qP00 : w9.cell? ⟨w.heap.size, 0, none⟩ = some (.slice A0a n0a c0a) := bxP0.cell 0
         have qP01 : w9.cell? ⟨w.heap.size, 1, none⟩ = some (.slice A0b n0b c0b) := bxP0.cell 1
         have rP0 : w.heap.size < w9.heap.size := bxP0.lt
         have qP20 : w9.cell? ⟨w1.heap.size, 0, none⟩ = some (.slice A2a n2a c2a) := bxP2.cell 0
         have qP21 : w9.cell? ⟨w1.heap.size, 1, none⟩ = some (.slice A2b n2b c2b) := bxP2.cell 1
         have rP2 : w1.heap.size < w9.heap.size := bxP2.lt))
  clear qP00 qP01 rP0 qP20 qP21 rP2
  clear oy0 fy0
  clear oy1 fy1
  clear oy2 fy2
  have qP00 : w9.cell? ⟨w.heap.size, 0, none⟩ = some (.slice A0a n0a c0a) := bxP0.cell 0
  have pP00 : ∀ o, (w9.alloc o).cell? ⟨w.heap.size, 0, none⟩ = some (.slice A0a n0a c0a) := fun o => keepA qP00
  have rP00 : w.heap.size < w9.heap.size := bxP0.lt
  have qP01 : w9.cell? ⟨w.heap.size, 1, none⟩ = some (.slice A0b n0b c0b) := bxP0.cell 1
  have pP01 : ∀ o, (w9.alloc o).cell? ⟨w.heap.size, 1, none⟩ = some (.slice A0b n0b c0b) := fun o => keepA qP01
  have rP01 : w.heap.size < w9.heap.size := bxP0.lt
  have qP20 : w9.cell? ⟨w1.heap.size, 0, none⟩ = some (.slice A2a n2a c2a) := bxP2.cell 0
  have pP20 : ∀ o, (w9.alloc o).cell? ⟨w1.heap.size, 0, none⟩ = some (.slice A2a n2a c2a) := fun o => keepA qP20
  have rP20 : w1.heap.size < w9.heap.size := bxP2.lt
  have qP21 : w9.cell? ⟨w1.heap.size, 1, none⟩ = some (.slice A2b n2b c2b) := bxP2.cell 1
  have pP21 : ∀ o, (w9.alloc o).cell? ⟨w1.heap.size, 1, none⟩ = some (.slice A2b n2b c2b) := fun o => keepA qP21
  have rP21 : w1.heap.size < w9.heap.size := bxP2.lt
  go_wp2_with fail
  clear qP00 pP00 rP00 qP01 pP01 rP01 qP20 pP20 rP20 qP21 pP21 rP21
  refine (toArena _ _ _ _ _ (Nat.le_refl _) (ha0.keep (keeps_below hww9)) hm0).mono ?_; rintro e w10 ⟨vx0a, vx0b, rfl, ox0, hbw10⟩
  obtain ⟨Ax0a, cx0a, Ax0b, cx0b, rfl, rfl⟩ := ox0.form
  have zw10 := hbw10.size
  have hww10 := below_then hbw10 hww9.size hww9
  replace bxP0 := bxP0.below hbw10 bxP0.lt
  replace bxP2 := bxP2.below hbw10 bxP2.lt
  have fx0 := Far.refl w9.heap.size w10
  have qP00 : w10.cell? ⟨w.heap.size, 0, none⟩ = some (.slice A0a n0a c0a) := bxP0.cell 0
  have pP00 : ∀ o, (w10.alloc o).cell? ⟨w.heap.size, 0, none⟩ = some (.slice A0a n0a c0a) := fun o => keepA qP00
  have rP00 : w.heap.size < w10.heap.size := bxP0.lt
  have qP01 : w10.cell? ⟨w.heap.size, 1, none⟩ = some (.slice A0b n0b c0b) := bxP0.cell 1
  have pP01 : ∀ o, (w10.alloc o).cell? ⟨w.heap.size, 1, none⟩ = some (.slice A0b n0b c0b) := fun o => keepA qP01
  have rP01 : w.heap.size < w10.heap.size := bxP0.lt
  have qP20 : w10.cell? ⟨w1.heap.size, 0, none⟩ = some (.slice A2a n2a c2a) := bxP2.cell 0
  have pP20 : ∀ o, (w10.alloc o).cell? ⟨w1.heap.size, 0, none⟩ = some (.slice A2a n2a c2a) := fun o => keepA qP20
  have rP20 : w1.heap.size < w10.heap.size := bxP2.lt
  have qP21 : w10.cell? ⟨w1.heap.size, 1, none⟩ = some (.slice A2b n2b c2b) := bxP2.cell 1
  have pP21 : ∀ o, (w10.alloc o).cell? ⟨w1.heap.size, 1, none⟩ = some (.slice A2b n2b c2b) := fun o => keepA qP21
  have rP21 : w1.heap.size < w10.heap.size := bxP2.lt
  go_wp2_with fail
  clear qP00 pP00 rP00 qP01 pP01 rP01 qP20 pP20 rP20 qP21 pP21 rP21
  have hww11 : Below w.heap.size w (w10.alloc (.cells #[.slice Ax0a (z0).1.length cx0a, .slice Ax0b (z0).2.length cx0b] 30)) := below_alloc (Nat.le_refl _) hww10
  have zw11 : w10.heap.size + 1 = (w10.alloc (.cells #[.slice Ax0a (z0).1.length cx0a, .slice Ax0b (z0).2.length cx0b] 30)).heap.size := by simp
  replace fx0 := fx0.step (below_alloc (o := (.cells #[.slice Ax0a (z0).1.length cx0a, .slice Ax0b (z0).2.length cx0b] 30)) (Nat.le_refl _) (Below.refl _ _))
  replace bxP0 := bxP0.alloc (.cells #[.slice Ax0a (z0).1.length cx0a, .slice Ax0b (z0).2.length cx0b] 30)
  replace bxP2 := bxP2.alloc (.cells #[.slice Ax0a (z0).1.length cx0a, .slice Ax0b (z0).2.length cx0b] 30)
  have bxx0 := Box.new w10 30 #[.slice Ax0a (z0).1.length cx0a, .slice Ax0b (z0).2.length cx0b]
  generalize (w10.alloc (.cells #[.slice Ax0a (z0).1.length cx0a, .slice Ax0b (z0).2.length cx0b] 30)) = w11 at hww11 zw11 fx0 bxP0 bxP2 bxx0 ⊢
  refine (toPairS _ _ _ _ _ _ (Nat.le_refl _) (ha1.keep (keeps_below hww11)) hm1).mono ?_; rintro e w12 ⟨vx1, rfl, ox1, hbw12⟩
  obtain ⟨Ax1, cx1, rfl⟩ := ox1.form
  have zw12 := hbw12.size
  have hww12 := below_then hbw12 hww11.size hww11
  replace fx0 := fx0.step hbw12
  replace bxP0 := bxP0.below hbw12 bxP0.lt
  replace bxP2 := bxP2.below hbw12 bxP2.lt
  replace bxx0 := bxx0.below hbw12 bxx0.lt
  have fx1 := Far.refl w11.heap.size w12
  have qP00 : w12.cell? ⟨w.heap.size, 0, none⟩ = some (.slice A0a n0a c0a) := bxP0.cell 0
  have pP00 : ∀ o, (w12.alloc o).cell? ⟨w.heap.size, 0, none⟩ = some (.slice A0a n0a c0a) := fun o => keepA qP00
  have rP00 : w.heap.size < w12.heap.size := bxP0.lt
  have qP01 : w12.cell? ⟨w.heap.size, 1, none⟩ = some (.slice A0b n0b c0b) := bxP0.cell 1
  have pP01 : ∀ o, (w12.alloc o).cell? ⟨w.heap.size, 1, none⟩ = some (.slice A0b n0b c0b) := fun o => keepA qP01
  have rP01 : w.heap.size < w12.heap.size := bxP0.lt
  have qP20 : w12.cell? ⟨w1.heap.size, 0, none⟩ = some (.slice A2a n2a c2a) := bxP2.cell 0
  have pP20 : ∀ o, (w12.alloc o).cell? ⟨w1.heap.size, 0, none⟩ = some (.slice A2a n2a c2a) := fun o => keepA qP20
  have rP20 : w1.heap.size < w12.heap.size := bxP2.lt
  have qP21 : w12.cell? ⟨w1.heap.size, 1, none⟩ = some (.slice A2b n2b c2b) := bxP2.cell 1
  have pP21 : ∀ o, (w12.alloc o).cell? ⟨w1.heap.size, 1, none⟩ = some (.slice A2b n2b c2b) := fun o => keepA qP21
  have rP21 : w1.heap.size < w12.heap.size := bxP2.lt
  have qx00 : w12.cell? ⟨w10.heap.size, 0, none⟩ = some (.slice Ax0a (z0).1.length cx0a) := bxx0.cell 0
  have px00 : ∀ o, (w12.alloc o).cell? ⟨w10.heap.size, 0, none⟩ = some (.slice Ax0a (z0).1.length cx0a) := fun o => keepA qx00
  have rx00 : w10.heap.size < w12.heap.size := bxx0.lt
  have qx01 : w12.cell? ⟨w10.heap.size, 1, none⟩ = some (.slice Ax0b (z0).2.length cx0b) := bxx0.cell 1
  have px01 : ∀ o, (w12.alloc o).cell? ⟨w10.heap.size, 1, none⟩ = some (.slice Ax0b (z0).2.length cx0b) := fun o => keepA qx01
  have rx01 : w10.heap.size < w12.heap.size := bxx0.lt
  go_wp2_with fail
  clear qP00 pP00 rP00 qP01 pP01 rP01 qP20 pP20 rP20 qP21 pP21 rP21 qx00 px00 rx00 qx01 px01 rx01
  refine (toLassoT _ _ _ _ _ (Nat.le_refl _) (ha2.keep (keeps_below hww12)) hm2).mono ?_; rintro e w13 ⟨vx2a, vx2b, rfl, ox2, hbw13⟩
  obtain ⟨Ax2a, cx2a, Ax2b, cx2b, rfl, rfl⟩ := ox2.form
  have zw13 := hbw13.size
  have hww13 := below_then hbw13 hww12.size hww12
  replace fx0 := fx0.step hbw13
  replace fx1 := fx1.step hbw13
  replace bxP0 := bxP0.below hbw13 bxP0.lt
  replace bxP2 := bxP2.below hbw13 bxP2.lt
  replace bxx0 := bxx0.below hbw13 bxx0.lt
  have fx2 := Far.refl w12.heap.size w13
  have qP00 : w13.cell? ⟨w.heap.size, 0, none⟩ = some (.slice A0a n0a c0a) := bxP0.cell 0
  have pP00 : ∀ o, (w13.alloc o).cell? ⟨w.heap.size, 0, none⟩ = some (.slice A0a n0a c0a) := fun o => keepA qP00
  have rP00 : w.heap.size < w13.heap.size := bxP0.lt
  have qP01 : w13.cell? ⟨w.heap.size, 1, none⟩ = some (.slice A0b n0b c0b) := bxP0.cell 1
  have pP01 : ∀ o, (w13.alloc o).cell? ⟨w.heap.size, 1, none⟩ = some (.slice A0b n0b c0b) := fun o => keepA qP01
  have rP01 : w.heap.size < w13.heap.size := bxP0.lt
  have qP20 : w13.cell? ⟨w1.heap.size, 0, none⟩ = some (.slice A2a n2a c2a) := bxP2.cell 0
  have pP20 : ∀ o, (w13.alloc o).cell? ⟨w1.heap.size, 0, none⟩ = some (.slice A2a n2a c2a) := fun o => keepA qP20
  have rP20 : w1.heap.size < w13.heap.size := bxP2.lt
  have qP21 : w13.cell? ⟨w1.heap.size, 1, none⟩ = some (.slice A2b n2b c2b) := bxP2.cell 1
  have pP21 : ∀ o, (w13.alloc o).cell? ⟨w1.heap.size, 1, none⟩ = some (.slice A2b n2b c2b) := fun o => keepA qP21
  have rP21 : w1.heap.size < w13.heap.size := bxP2.lt
  have qx00 : w13.cell? ⟨w10.heap.size, 0, none⟩ = some (.slice Ax0a (z0).1.length cx0a) := bxx0.cell 0
  have px00 : ∀ o, (w13.alloc o).cell? ⟨w10.heap.size, 0, none⟩ = some (.slice Ax0a (z0).1.length cx0a) := fun o => keepA qx00
  have rx00 : w10.heap.size < w13.heap.size := bxx0.lt
  have qx01 : w13.cell? ⟨w10.heap.size, 1, none⟩ = some (.slice Ax0b (z0).2.length cx0b) := bxx0.cell 1
  have px01 : ∀ o, (w13.alloc o).cell? ⟨w10.heap.size, 1, none⟩ = some (.slice Ax0b (z0).2.length cx0b) := fun o => keepA qx01
  have rx01 : w10.heap.size < w13.heap.size := bxx0.lt
  go_wp2_with fail
  clear qP00 pP00 rP00 qP01 pP01 rP01 qP20 pP20 rP20 qP21 pP21 rP21 qx00 px00 rx00 qx01 px01 rx01
  have hww14 : Below w.heap.size w (w13.alloc (.cells #[.slice Ax2a (z2).1.length cx2a, .slice Ax2b (z2).2.length cx2b] 41)) := below_alloc (Nat.le_refl _) hww13
  have zw14 : w13.heap.size + 1 = (w13.alloc (.cells #[.slice Ax2a (z2).1.length cx2a, .slice Ax2b (z2).2.length cx2b] 41)).heap.size := by simp
  replace fx0 := fx0.step (below_alloc (o := (.cells #[.slice Ax2a (z2).1.length cx2a, .slice Ax2b (z2).2.length cx2b] 41)) (Nat.le_refl _) (Below.refl _ _))
  replace fx1 := fx1.step (below_alloc (o := (.cells #[.slice Ax2a (z2).1.length cx2a, .slice Ax2b (z2).2.length cx2b] 41)) (Nat.le_refl _) (Below.refl _ _))
  replace fx2 := fx2.step (below_alloc (o := (.cells #[.slice Ax2a (z2).1.length cx2a, .slice Ax2b (z2).2.length cx2b] 41)) (Nat.le_refl _) (Below.refl _ _))
  replace bxP0 := bxP0.alloc (.cells #[.slice Ax2a (z2).1.length cx2a, .slice Ax2b (z2).2.length cx2b] 41)
  replace bxP2 := bxP2.alloc (.cells #[.slice Ax2a (z2).1.length cx2a, .slice Ax2b (z2).2.length cx2b] 41)
  replace bxx0 := bxx0.alloc (.cells #[.slice Ax2a (z2).1.length cx2a, .slice Ax2b (z2).2.length cx2b] 41)
  have bxx2 := Box.new w13 41 #[.slice Ax2a (z2).1.length cx2a, .slice Ax2b (z2).2.length cx2b]
  generalize (w13.alloc (.cells #[.slice Ax2a (z2).1.length cx2a, .slice Ax2b (z2).2.length cx2b] 41)) = w14 at hww14 zw14 fx0 fx1 fx2 bxP0 bxP2 bxx0 bxx2 ⊢
  refine (implLassoWell _ _ _ _ _ _ _ _ _ _ _ _ (Nat.le_refl _) (ox0.hold fx0).reads (ox1.hold fx1).reads (ox2.hold fx2).reads).mono ?_; rintro e w15 ⟨rfl, hbw15⟩
  have zw15 := hbw15.size
  have hww15 := below_then hbw15 hww14.size hww14
  replace fx0 := fx0.step hbw15
  replace fx1 := fx1.step hbw15
  replace fx2 := fx2.step hbw15
  replace bxP0 := bxP0.below hbw15 bxP0.lt
  replace bxP2 := bxP2.below hbw15 bxP2.lt
  replace bxx0 := bxx0.below hbw15 bxx0.lt
  replace bxx2 := bxx2.below hbw15 bxx2.lt
  have qP00 : w15.cell? ⟨w.heap.size, 0, none⟩ = some (.slice A0a n0a c0a) := bxP0.cell 0
  have pP00 : ∀ o, (w15.alloc o).cell? ⟨w.heap.size, 0, none⟩ = some (.slice A0a n0a c0a) := fun o => keepA qP00
  have rP00 : w.heap.size < w15.heap.size := bxP0.lt
  have qP01 : w15.cell? ⟨w.heap.size, 1, none⟩ = some (.slice A0b n0b c0b) := bxP0.cell 1
  have pP01 : ∀ o, (w15.alloc o).cell? ⟨w.heap.size, 1, none⟩ = some (.slice A0b n0b c0b) := fun o => keepA qP01
  have rP01 : w.heap.size < w15.heap.size := bxP0.lt
  have qP20 : w15.cell? ⟨w1.heap.size, 0, none⟩ = some (.slice A2a n2a c2a) := bxP2.cell 0
  have pP20 : ∀ o, (w15.alloc o).cell? ⟨w1.heap.size, 0, none⟩ = some (.slice A2a n2a c2a) := fun o => keepA qP20
  have rP20 : w1.heap.size < w15.heap.size := bxP2.lt
  have qP21 : w15.cell? ⟨w1.heap.size, 1, none⟩ = some (.slice A2b n2b c2b) := bxP2.cell 1
  have pP21 : ∀ o, (w15.alloc o).cell? ⟨w1.heap.size, 1, none⟩ = some (.slice A2b n2b c2b) := fun o => keepA qP21
  have rP21 : w1.heap.size < w15.heap.size := bxP2.lt
  have qx00 : w15.cell? ⟨w10.heap.size, 0, none⟩ = some (.slice Ax0a (z0).1.length cx0a) := bxx0.cell 0
  have px00 : ∀ o, (w15.alloc o).cell? ⟨w10.heap.size, 0, none⟩ = some (.slice Ax0a (z0).1.length cx0a) := fun o => keepA qx00
  have rx00 : w10.heap.size < w15.heap.size := bxx0.lt
  have qx01 : w15.cell? ⟨w10.heap.size, 1, none⟩ = some (.slice Ax0b (z0).2.length cx0b) := bxx0.cell 1
  have px01 : ∀ o, (w15.alloc o).cell? ⟨w10.heap.size, 1, none⟩ = some (.slice Ax0b (z0).2.length cx0b) := fun o => keepA qx01
  have rx01 : w10.heap.size < w15.heap.size := bxx0.lt
  have qx20 : w15.cell? ⟨w13.heap.size, 0, none⟩ = some (.slice Ax2a (z2).1.length cx2a) := bxx2.cell 0
  have px20 : ∀ o, (w15.alloc o).cell? ⟨w13.heap.size, 0, none⟩ = some (.slice Ax2a (z2).1.length cx2a) := fun o => keepA qx20
  have rx20 : w13.heap.size < w15.heap.size := bxx2.lt
  have qx21 : w15.cell? ⟨w13.heap.size, 1, none⟩ = some (.slice Ax2b (z2).2.length cx2b) := bxx2.cell 1
  have px21 : ∀ o, (w15.alloc o).cell? ⟨w13.heap.size, 1, none⟩ = some (.slice Ax2b (z2).2.length cx2b) := fun o => keepA qx21
  have rx21 : w13.heap.size < w15.heap.size := bxx2.lt
  go_wp2_with fail
  clear qP00 pP00 rP00 qP01 pP01 rP01 qP20 pP20 rP20 qP21 pP21 rP21 qx00 px00 rx00 qx01 px01 rx01 qx20 px20 rx20 qx21 px21 rx21
  have qP00 : w15.cell? ⟨w.heap.size, 0, none⟩ = some (.slice A0a n0a c0a) := bxP0.cell 0
  have qP01 : w15.cell? ⟨w.heap.size, 1, none⟩ = some (.slice A0b n0b c0b) := bxP0.cell 1
  have rP0 : w.heap.size < w15.heap.size := bxP0.lt
  have qP20 : w15.cell? ⟨w1.heap.size, 0, none⟩ = some (.slice A2a n2a c2a) := bxP2.cell 0
  have qP21 : w15.cell? ⟨w1.heap.size, 1, none⟩ = some (.slice A2b n2b c2b) := bxP2.cell 1
  have rP2 : w1.heap.size < w15.heap.size := bxP2.lt
  have qx00 : w15.cell? ⟨w10.heap.size, 0, none⟩ = some (.slice Ax0a (z0).1.length cx0a) := bxx0.cell 0
  have qx01 : w15.cell? ⟨w10.heap.size, 1, none⟩ = some (.slice Ax0b (z0).2.length cx0b) := bxx0.cell 1
  have rx0 : w10.heap.size < w15.heap.size := bxx0.lt
  have qx20 : w15.cell? ⟨w13.heap.size, 0, none⟩ = some (.slice Ax2a (z2).1.length cx2a) := bxx2.cell 0
  have qx21 : w15.cell? ⟨w13.heap.size, 1, none⟩ = some (.slice Ax2b (z2).2.length cx2b) := bxx2.cell 1
  have rx2 : w13.heap.size < w15.heap.size := bxx2.lt
  go_region_held3 (fun w' => w'.cell? ⟨w.heap.size, 0, none⟩ = some (.slice A0a n0a c0a) ∧ w'.cell? ⟨w.heap.size, 1, none⟩ = some (.slice A0b n0b c0b) ∧ w'.cell? ⟨w1.heap.size, 0, none⟩ = some (.slice A2a n2a c2a) ∧ w'.cell? ⟨w1.heap.size, 1, none⟩ = some (.slice A2b n2b c2b) ∧ w'.cell? ⟨w10.heap.size, 0, none⟩ = some (.slice Ax0a (z0).1.length cx0a) ∧ w'.cell? ⟨w10.heap.size, 1, none⟩ = some (.slice Ax0b (z0).2.length cx0b) ∧ w'.cell? ⟨w13.heap.size, 0, none⟩ = some (.slice Ax2a (z2).1.length cx2a) ∧ w'.cell? ⟨w13.heap.size, 1, none⟩ = some (.slice Ax2b (z2).2.length cx2b))
    (refine ⟨?_, ?_, ?_, ?_, ?_, ?_, ?_, ?_⟩ <;> repeat (first | with_reducible assumption | with_reducible refine keepD ?_ | with_reducible refine keepA ?_))
    (first
      | (go_at_call 77
         refine (toArena _ _ _ _ _ (Nat.le_refl _) (ha0.keep (keeps_below (Below.drew hww15))) hm0).mono ?_; rintro e w16 ⟨vt0a, vt0b, rfl, ot0, hbw16⟩
         replace hbw16 := below_undrew hbw16
         obtain ⟨At0a, ct0a, At0b, ct0b, rfl, rfl⟩ := ot0.form
         have zw16 := hbw16.size
         have hww16 := below_then hbw16 hww15.size hww15
         replace fx0 := fx0.step hbw16
         replace fx1 := fx1.step hbw16
         replace fx2 := fx2.step hbw16
         replace bxP0 := bxP0.below hbw16 bxP0.lt
         replace bxP2 := bxP2.below hbw16 bxP2.lt
         replace bxx0 := bxx0.below hbw16 bxx0.lt
         replace bxx2 := bxx2.below hbw16 bxx2.lt
         have ft0 := Far.refl w15.heap.size w16
         have qP00 : w16.cell? ⟨w.heap.size, 0, none⟩ = some (.slice A0a n0a c0a) := bxP0.cell 0
         have qP01 : w16.cell? ⟨w.heap.size, 1, none⟩ = some (.slice A0b n0b c0b) := bxP0.cell 1
         have rP0 : w.heap.size < w16.heap.size := bxP0.lt
         have qP20 : w16.cell? ⟨w1.heap.size, 0, none⟩ = some (.slice A2a n2a c2a) := bxP2.cell 0
         have qP21 : w16.cell? ⟨w1.heap.size, 1, none⟩ = some (.slice A2b n2b c2b) := bxP2.cell 1
         have rP2 : w1.heap.size < w16.heap.size := bxP2.lt
         have qx00 : w16.cell? ⟨w10.heap.size, 0, none⟩ = some (.slice Ax0a (z0).1.length cx0a) := bxx0.cell 0
         have qx01 : w16.cell? ⟨w10.heap.size, 1, none⟩ = some (.slice Ax0b (z0).2.length cx0b) := bxx0.cell 1
         have rx0 : w10.heap.size < w16.heap.size := bxx0.lt
         have qx20 : w16.cell? ⟨w13.heap.size, 0, none⟩ = some (.slice Ax2a (z2).1.length cx2a) := bxx2.cell 0
         have qx21 : w16.cell? ⟨w13.heap.size, 1, none⟩ = some (.slice Ax2b (z2).2.length cx2b) := bxx2.cell 1
         have rx2 : w13.heap.size < w16.heap.size := bxx2.lt)
      | (go_at_call 80
         refine (eqArena _ _ _ _ _ _ _ _ _ _ (Nat.le_refl _) (ox0.hold fx0).reads (ot0.hold ft0).reads).mono ?_; rintro e w17 ⟨rfl, hbw17⟩
         have zw17 := hbw17.size
         have hww17 := below_then hbw17 hww16.size hww16
         replace fx0 := fx0.step hbw17
         replace fx1 := fx1.step hbw17
         replace fx2 := fx2.step hbw17
         replace ft0 := ft0.step hbw17
         replace bxP0 := bxP0.below hbw17 bxP0.lt
         replace bxP2 := bxP2.below hbw17 bxP2.lt
         replace bxx0 := bxx0.below hbw17 bxx0.lt
         replace bxx2 := bxx2.below hbw17 bxx2.lt
         rw [eqAr_self]
         have qP00 : w17.cell? ⟨w.heap.size, 0, none⟩ = some (.slice A0a n0a c0a) := bxP0.cell 0
         have qP01 : w17.cell? ⟨w.heap.size, 1, none⟩ = some (.slice A0b n0b c0b) := bxP0.cell 1
         have rP0 : w.heap.size < w17.heap.size := bxP0.lt
         have qP20 : w17.cell? ⟨w1.heap.size, 0, none⟩ = some (.slice A2a n2a c2a) := bxP2.cell 0
         have qP21 : w17.cell? ⟨w1.heap.size, 1, none⟩ = some (.slice A2b n2b c2b) := bxP2.cell 1
         have rP2 : w1.heap.size < w17.heap.size := bxP2.lt
         have qx00 : w17.cell? ⟨w10.heap.size, 0, none⟩ = some (.slice Ax0a (z0).1.length cx0a) := bxx0.cell 0
         have qx01 : w17.cell? ⟨w10.heap.size, 1, none⟩ = some (.slice Ax0b (z0).2.length cx0b) := bxx0.cell 1
         have rx0 : w10.heap.size < w17.heap.size := bxx0.lt
         have qx20 : w17.cell? ⟨w13.heap.size, 0, none⟩ = some (.slice Ax2a (z2).1.length cx2a) := bxx2.cell 0
         have qx21 : w17.cell? ⟨w13.heap.size, 1, none⟩ = some (.slice Ax2b (z2).2.length cx2b) := bxx2.cell 1
         have rx2 : w13.heap.size < w17.heap.size := bxx2.lt))
  clear qP00 qP01 rP0 qP20 qP21 rP2 qx00 qx01 rx0 qx20 qx21 rx2
  clear ot0 ft0
  have qP00 : w17.cell? ⟨w.heap.size, 0, none⟩ = some (.slice A0a n0a c0a) := bxP0.cell 0
  have pP00 : ∀ o, (w17.alloc o).cell? ⟨w.heap.size, 0, none⟩ = some (.slice A0a n0a c0a) := fun o => keepA qP00
  have rP00 : w.heap.size < w17.heap.size := bxP0.lt
  have qP01 : w17.cell? ⟨w.heap.size, 1, none⟩ = some (.slice A0b n0b c0b) := bxP0.cell 1
  have pP01 : ∀ o, (w17.alloc o).cell? ⟨w.heap.size, 1, none⟩ = some (.slice A0b n0b c0b) := fun o => keepA qP01
  have rP01 : w.heap.size < w17.heap.size := bxP0.lt
  have qP20 : w17.cell? ⟨w1.heap.size, 0, none⟩ = some (.slice A2a n2a c2a) := bxP2.cell 0
  have pP20 : ∀ o, (w17.alloc o).cell? ⟨w1.heap.size, 0, none⟩ = some (.slice A2a n2a c2a) := fun o => keepA qP20
  have rP20 : w1.heap.size < w17.heap.size := bxP2.lt
  have qP21 : w17.cell? ⟨w1.heap.size, 1, none⟩ = some (.slice A2b n2b c2b) := bxP2.cell 1
  have pP21 : ∀ o, (w17.alloc o).cell? ⟨w1.heap.size, 1, none⟩ = some (.slice A2b n2b c2b) := fun o => keepA qP21
  have rP21 : w1.heap.size < w17.heap.size := bxP2.lt
  have qx00 : w17.cell? ⟨w10.heap.size, 0, none⟩ = some (.slice Ax0a (z0).1.length cx0a) := bxx0.cell 0
  have px00 : ∀ o, (w17.alloc o).cell? ⟨w10.heap.size, 0, none⟩ = some (.slice Ax0a (z0).1.length cx0a) := fun o => keepA qx00
  have rx00 : w10.heap.size < w17.heap.size := bxx0.lt
  have qx01 : w17.cell? ⟨w10.heap.size, 1, none⟩ = some (.slice Ax0b (z0).2.length cx0b) := bxx0.cell 1
  have px01 : ∀ o, (w17.alloc o).cell? ⟨w10.heap.size, 1, none⟩ = some (.slice Ax0b (z0).2.length cx0b) := fun o => keepA qx01
  have rx01 : w10.heap.size < w17.heap.size := bxx0.lt
  have qx20 : w17.cell? ⟨w13.heap.size, 0, none⟩ = some (.slice Ax2a (z2).1.length cx2a) := bxx2.cell 0
  have px20 : ∀ o, (w17.alloc o).cell? ⟨w13.heap.size, 0, none⟩ = some (.slice Ax2a (z2).1.length cx2a) := fun o => keepA qx20
  have rx20 : w13.heap.size < w17.heap.size := bxx2.lt
  have qx21 : w17.cell? ⟨w13.heap.size, 1, none⟩ = some (.slice Ax2b (z2).2.length cx2b) := bxx2.cell 1
  have px21 : ∀ o, (w17.alloc o).cell? ⟨w13.heap.size, 1, none⟩ = some (.slice Ax2b (z2).2.length cx2b) := fun o => keepA qx21
  have rx21 : w13.heap.size < w17.heap.size := bxx2.lt
  go_wp2_with fail
  clear qP00 pP00 rP00 qP01 pP01 rP01 qP20 pP20 rP20 qP21 pP21 rP21 qx00 px00 rx00 qx01 px01 rx01 qx20 px20 rx20 qx21 px21 rx21
  refine (toPairS _ _ _ _ _ _ (Nat.le_refl _) (ha1.keep (keeps_below hww17)) hm1).mono ?_; rintro e w18 ⟨vt1, rfl, ot1, hbw18⟩
  obtain ⟨At1, ct1, rfl⟩ := ot1.form
  have zw18 := hbw18.size
  have hww18 := below_then hbw18 hww17.size hww17
  replace fx0 := fx0.step hbw18
  replace fx1 := fx1.step hbw18
  replace fx2 := fx2.step hbw18
  replace bxP0 := bxP0.below hbw18 bxP0.lt
  replace bxP2 := bxP2.below hbw18 bxP2.lt
  replace bxx0 := bxx0.below hbw18 bxx0.lt
  replace bxx2 := bxx2.below hbw18 bxx2.lt
  have ft1 := Far.refl w17.heap.size w18
  have qP00 : w18.cell? ⟨w.heap.size, 0, none⟩ = some (.slice A0a n0a c0a) := bxP0.cell 0
  have pP00 : ∀ o, (w18.alloc o).cell? ⟨w.heap.size, 0, none⟩ = some (.slice A0a n0a c0a) := fun o => keepA qP00
  have rP00 : w.heap.size < w18.heap.size := bxP0.lt
  have qP01 : w18.cell? ⟨w.heap.size, 1, none⟩ = some (.slice A0b n0b c0b) := bxP0.cell 1
  have pP01 : ∀ o, (w18.alloc o).cell? ⟨w.heap.size, 1, none⟩ = some (.slice A0b n0b c0b) := fun o => keepA qP01
  have rP01 : w.heap.size < w18.heap.size := bxP0.lt
  have qP20 : w18.cell? ⟨w1.heap.size, 0, none⟩ = some (.slice A2a n2a c2a) := bxP2.cell 0
  have pP20 : ∀ o, (w18.alloc o).cell? ⟨w1.heap.size, 0, none⟩ = some (.slice A2a n2a c2a) := fun o => keepA qP20
  have rP20 : w1.heap.size < w18.heap.size := bxP2.lt
  have qP21 : w18.cell? ⟨w1.heap.size, 1, none⟩ = some (.slice A2b n2b c2b) := bxP2.cell 1
  have pP21 : ∀ o, (w18.alloc o).cell? ⟨w1.heap.size, 1, none⟩ = some (.slice A2b n2b c2b) := fun o => keepA qP21
  have rP21 : w1.heap.size < w18.heap.size := bxP2.lt
  have qx00 : w18.cell? ⟨w10.heap.size, 0, none⟩ = some (.slice Ax0a (z0).1.length cx0a) := bxx0.cell 0
  have px00 : ∀ o, (w18.alloc o).cell? ⟨w10.heap.size, 0, none⟩ = some (.slice Ax0a (z0).1.length cx0a) := fun o => keepA qx00
  have rx00 : w10.heap.size < w18.heap.size := bxx0.lt
  have qx01 : w18.cell? ⟨w10.heap.size, 1, none⟩ = some (.slice Ax0b (z0).2.length cx0b) := bxx0.cell 1
  have px01 : ∀ o, (w18.alloc o).cell? ⟨w10.heap.size, 1, none⟩ = some (.slice Ax0b (z0).2.length cx0b) := fun o => keepA qx01
  have rx01 : w10.heap.size < w18.heap.size := bxx0.lt
  have qx20 : w18.cell? ⟨w13.heap.size, 0, none⟩ = some (.slice Ax2a (z2).1.length cx2a) := bxx2.cell 0
  have px20 : ∀ o, (w18.alloc o).cell? ⟨w13.heap.size, 0, none⟩ = some (.slice Ax2a (z2).1.length cx2a) := fun o => keepA qx20
  have rx20 : w13.heap.size < w18.heap.size := bxx2.lt
  have qx21 : w18.cell? ⟨w13.heap.size, 1, none⟩ = some (.slice Ax2b (z2).2.length cx2b) := bxx2.cell 1
  have px21 : ∀ o, (w18.alloc o).cell? ⟨w13.heap.size, 1, none⟩ = some (.slice Ax2b (z2).2.length cx2b) := fun o => keepA qx21
  have rx21 : w13.heap.size < w18.heap.size := bxx2.lt
  go_wp2_with fail
  clear qP00 pP00 rP00 qP01 pP01 rP01 qP20 pP20 rP20 qP21 pP21 rP21 qx00 px00 rx00 qx01 px01 rx01 qx20 px20 rx20 qx21 px21 rx21
  refine (eqPairS _ _ _ _ _ _ _ _ _ _ (Nat.le_refl _) (ox1.hold fx1).reads (ot1.hold ft1).reads).mono ?_; rintro e w19 ⟨rfl, hbw19⟩
  have zw19 := hbw19.size
  have hww19 := below_then hbw19 hww18.size hww18
  replace fx0 := fx0.step hbw19
  replace fx1 := fx1.step hbw19
  replace fx2 := fx2.step hbw19
  replace ft1 := ft1.step hbw19
  replace bxP0 := bxP0.below hbw19 bxP0.lt
  replace bxP2 := bxP2.below hbw19 bxP2.lt
  replace bxx0 := bxx0.below hbw19 bxx0.lt
  replace bxx2 := bxx2.below hbw19 bxx2.lt
  rw [eqPs_self]
  clear ot1 ft1
  have qP00 : w19.cell? ⟨w.heap.size, 0, none⟩ = some (.slice A0a n0a c0a) := bxP0.cell 0
  have pP00 : ∀ o, (w19.alloc o).cell? ⟨w.heap.size, 0, none⟩ = some (.slice A0a n0a c0a) := fun o => keepA qP00
  have rP00 : w.heap.size < w19.heap.size := bxP0.lt
  have qP01 : w19.cell? ⟨w.heap.size, 1, none⟩ = some (.slice A0b n0b c0b) := bxP0.cell 1
  have pP01 : ∀ o, (w19.alloc o).cell? ⟨w.heap.size, 1, none⟩ = some (.slice A0b n0b c0b) := fun o => keepA qP01
  have rP01 : w.heap.size < w19.heap.size := bxP0.lt
  have qP20 : w19.cell? ⟨w1.heap.size, 0, none⟩ = some (.slice A2a n2a c2a) := bxP2.cell 0
  have pP20 : ∀ o, (w19.alloc o).cell? ⟨w1.heap.size, 0, none⟩ = some (.slice A2a n2a c2a) := fun o => keepA qP20
  have rP20 : w1.heap.size < w19.heap.size := bxP2.lt
  have qP21 : w19.cell? ⟨w1.heap.size, 1, none⟩ = some (.slice A2b n2b c2b) := bxP2.cell 1
  have pP21 : ∀ o, (w19.alloc o).cell? ⟨w1.heap.size, 1, none⟩ = some (.slice A2b n2b c2b) := fun o => keepA qP21
  have rP21 : w1.heap.size < w19.heap.size := bxP2.lt
  have qx00 : w19.cell? ⟨w10.heap.size, 0, none⟩ = some (.slice Ax0a (z0).1.length cx0a) := bxx0.cell 0
  have px00 : ∀ o, (w19.alloc o).cell? ⟨w10.heap.size, 0, none⟩ = some (.slice Ax0a (z0).1.length cx0a) := fun o => keepA qx00
  have rx00 : w10.heap.size < w19.heap.size := bxx0.lt
  have qx01 : w19.cell? ⟨w10.heap.size, 1, none⟩ = some (.slice Ax0b (z0).2.length cx0b) := bxx0.cell 1
  have px01 : ∀ o, (w19.alloc o).cell? ⟨w10.heap.size, 1, none⟩ = some (.slice Ax0b (z0).2.length cx0b) := fun o => keepA qx01
  have rx01 : w10.heap.size < w19.heap.size := bxx0.lt
  have qx20 : w19.cell? ⟨w13.heap.size, 0, none⟩ = some (.slice Ax2a (z2).1.length cx2a) := bxx2.cell 0
  have px20 : ∀ o, (w19.alloc o).cell? ⟨w13.heap.size, 0, none⟩ = some (.slice Ax2a (z2).1.length cx2a) := fun o => keepA qx20
  have rx20 : w13.heap.size < w19.heap.size := bxx2.lt
  have qx21 : w19.cell? ⟨w13.heap.size, 1, none⟩ = some (.slice Ax2b (z2).2.length cx2b) := bxx2.cell 1
  have px21 : ∀ o, (w19.alloc o).cell? ⟨w13.heap.size, 1, none⟩ = some (.slice Ax2b (z2).2.length cx2b) := fun o => keepA qx21
  have rx21 : w13.heap.size < w19.heap.size := bxx2.lt
  go_wp2_with fail
  clear qP00 pP00 rP00 qP01 pP01 rP01 qP20 pP20 rP20 qP21 pP21 rP21 qx00 px00 rx00 qx01 px01 rx01 qx20 px20 rx20 qx21 px21 rx21
  have qP00 : w19.cell? ⟨w.heap.size, 0, none⟩ = some (.slice A0a n0a c0a) := bxP0.cell 0
  have qP01 : w19.cell? ⟨w.heap.size, 1, none⟩ = some (.slice A0b n0b c0b) := bxP0.cell 1
  have rP0 : w.heap.size < w19.heap.size := bxP0.lt
  have qP20 : w19.cell? ⟨w1.heap.size, 0, none⟩ = some (.slice A2a n2a c2a) := bxP2.cell 0
  have qP21 : w19.cell? ⟨w1.heap.size, 1, none⟩ = some (.slice A2b n2b c2b) := bxP2.cell 1
  have rP2 : w1.heap.size < w19.heap.size := bxP2.lt
  have qx00 : w19.cell? ⟨w10.heap.size, 0, none⟩ = some (.slice Ax0a (z0).1.length cx0a) := bxx0.cell 0
  have qx01 : w19.cell? ⟨w10.heap.size, 1, none⟩ = some (.slice Ax0b (z0).2.length cx0b) := bxx0.cell 1
  have rx0 : w10.heap.size < w19.heap.size := bxx0.lt
  have qx20 : w19.cell? ⟨w13.heap.size, 0, none⟩ = some (.slice Ax2a (z2).1.length cx2a) := bxx2.cell 0
  have qx21 : w19.cell? ⟨w13.heap.size, 1, none⟩ = some (.slice Ax2b (z2).2.length cx2b) := bxx2.cell 1
  have rx2 : w13.heap.size < w19.heap.size := bxx2.lt
  go_region_held3 (fun w' => w'.cell? ⟨w.heap.size, 0, none⟩ = some (.slice A0a n0a c0a) ∧ w'.cell? ⟨w.heap.size, 1, none⟩ = some (.slice A0b n0b c0b) ∧ w'.cell? ⟨w1.heap.size, 0, none⟩ = some (.slice A2a n2a c2a) ∧ w'.cell? ⟨w1.heap.size, 1, none⟩ = some (.slice A2b n2b c2b) ∧ w'.cell? ⟨w10.heap.size, 0, none⟩ = some (.slice Ax0a (z0).1.length cx0a) ∧ w'.cell? ⟨w10.heap.size, 1, none⟩ = some (.slice Ax0b (z0).2.length cx0b) ∧ w'.cell? ⟨w13.heap.size, 0, none⟩ = some (.slice Ax2a (z2).1.length cx2a) ∧ w'.cell? ⟨w13.heap.size, 1, none⟩ = some (.slice Ax2b (z2).2.length cx2b))
    (refine ⟨?_, ?_, ?_, ?_, ?_, ?_, ?_, ?_⟩ <;> repeat (first | with_reducible assumption | with_reducible refine keepD ?_ | with_reducible refine keepA ?_))
    (first
      | (go_at_call 79
         refine (toLassoT _ _ _ _ _ (Nat.le_refl _) (ha2.keep (keeps_below (Below.drew hww19))) hm2).mono ?_; rintro e w20 ⟨vt2a, vt2b, rfl, ot2, hbw20⟩
         replace hbw20 := below_undrew hbw20
         obtain ⟨At2a, ct2a, At2b, ct2b, rfl, rfl⟩ := ot2.form
         have zw20 := hbw20.size
         have hww20 := below_then hbw20 hww19.size hww19
         replace fx0 := fx0.step hbw20
         replace fx1 := fx1.step hbw20
         replace fx2 := fx2.step hbw20
         replace bxP0 := bxP0.below hbw20 bxP0.lt
         replace bxP2 := bxP2.below hbw20 bxP2.lt
         replace bxx0 := bxx0.below hbw20 bxx0.lt
         replace bxx2 := bxx2.below hbw20 bxx2.lt
         have ft2 := Far.refl w19.heap.size w20
         have qP00 : w20.cell? ⟨w.heap.size, 0, none⟩ = some (.slice A0a n0a c0a) := bxP0.cell 0
         have qP01 : w20.cell? ⟨w.heap.size, 1, none⟩ = some (.slice A0b n0b c0b) := bxP0.cell 1
         have rP0 : w.heap.size < w20.heap.size := bxP0.lt
         have qP20 : w20.cell? ⟨w1.heap.size, 0, none⟩ = some (.slice A2a n2a c2a) := bxP2.cell 0
         have qP21 : w20.cell? ⟨w1.heap.size, 1, none⟩ = some (.slice A2b n2b c2b) := bxP2.cell 1
         have rP2 : w1.heap.size < w20.heap.size := bxP2.lt
         have qx00 : w20.cell? ⟨w10.heap.size, 0, none⟩ = some (.slice Ax0a (z0).1.length cx0a) := bxx0.cell 0
         have qx01 : w20.cell? ⟨w10.heap.size, 1, none⟩ = some (.slice Ax0b (z0).2.length cx0b) := bxx0.cell 1
         have rx0 : w10.heap.size < w20.heap.size := bxx0.lt
         have qx20 : w20.cell? ⟨w13.heap.size, 0, none⟩ = some (.slice Ax2a (z2).1.length cx2a) := bxx2.cell 0
         have qx21 : w20.cell? ⟨w13.heap.size, 1, none⟩ = some (.slice Ax2b (z2).2.length cx2b) := bxx2.cell 1
         have rx2 : w13.heap.size < w20.heap.size := bxx2.lt)
      | (go_at_call 81
         refine (eqLassoT _ _ _ _ _ _ _ _ (Nat.le_refl _) (ox2.hold fx2).reads (ot2.hold ft2).reads).mono ?_; rintro e w21 ⟨rfl, hbw21⟩
         have zw21 := hbw21.size
         have hww21 := below_then hbw21 hww20.size hww20
         replace fx0 := fx0.step hbw21
         replace fx1 := fx1.step hbw21
         replace fx2 := fx2.step hbw21
         replace ft2 := ft2.step hbw21
         replace bxP0 := bxP0.below hbw21 bxP0.lt
         replace bxP2 := bxP2.below hbw21 bxP2.lt
         replace bxx0 := bxx0.below hbw21 bxx0.lt
         replace bxx2 := bxx2.below hbw21 bxx2.lt
         rw [eqT_self]
         have qP00 : w21.cell? ⟨w.heap.size, 0, none⟩ = some (.slice A0a n0a c0a) := bxP0.cell 0
         have qP01 : w21.cell? ⟨w.heap.size, 1, none⟩ = some (.slice A0b n0b c0b) := bxP0.cell 1
         have rP0 : w.heap.size < w21.heap.size := bxP0.lt
         have qP20 : w21.cell? ⟨w1.heap.size, 0, none⟩ = some (.slice A2a n2a c2a) := bxP2.cell 0
         have qP21 : w21.cell? ⟨w1.heap.size, 1, none⟩ = some (.slice A2b n2b c2b) := bxP2.cell 1
         have rP2 : w1.heap.size < w21.heap.size := bxP2.lt
         have qx00 : w21.cell? ⟨w10.heap.size, 0, none⟩ = some (.slice Ax0a (z0).1.length cx0a) := bxx0.cell 0
         have qx01 : w21.cell? ⟨w10.heap.size, 1, none⟩ = some (.slice Ax0b (z0).2.length cx0b) := bxx0.cell 1
         have rx0 : w10.heap.size < w21.heap.size := bxx0.lt
         have qx20 : w21.cell? ⟨w13.heap.size, 0, none⟩ = some (.slice Ax2a (z2).1.length cx2a) := bxx2.cell 0
         have qx21 : w21.cell? ⟨w13.heap.size, 1, none⟩ = some (.slice Ax2b (z2).2.length cx2b) := bxx2.cell 1
         have rx2 : w13.heap.size < w21.heap.size := bxx2.lt))
  clear qP00 qP01 rP0 qP20 qP21 rP2 qx00 qx01 rx0 qx20 qx21 rx2
  clear ot2 ft2
  have qP00 : w21.cell? ⟨w.heap.size, 0, none⟩ = some (.slice A0a n0a c0a) := bxP0.cell 0
  have qP01 : w21.cell? ⟨w.heap.size, 1, none⟩ = some (.slice A0b n0b c0b) := bxP0.cell 1
  have qP20 : w21.cell? ⟨w1.heap.size, 0, none⟩ = some (.slice A2a n2a c2a) := bxP2.cell 0
  have qP21 : w21.cell? ⟨w1.heap.size, 1, none⟩ = some (.slice A2b n2b c2b) := bxP2.cell 1
  have qx00 : w21.cell? ⟨w10.heap.size, 0, none⟩ = some (.slice Ax0a (z0).1.length cx0a) := bxx0.cell 0
  have qx01 : w21.cell? ⟨w10.heap.size, 1, none⟩ = some (.slice Ax0b (z0).2.length cx0b) := bxx0.cell 1
  have qx20 : w21.cell? ⟨w13.heap.size, 0, none⟩ = some (.slice Ax2a (z2).1.length cx2a) := bxx2.cell 0
  have qx21 : w21.cell? ⟨w13.heap.size, 1, none⟩ = some (.slice Ax2b (z2).2.length cx2b) := bxx2.cell 1
  go_wp2
  go_ret
  exact ⟨rfl, hww21⟩

theorem own : ownKnob Try.prog.godebug = none := by kernel_rfl
theorem laidOut : laidOutB Try.prog = true := by kernel_rfl
set_option maxRecDepth 100000 in
theorem lifted (os : Os) (started : os.Started) (H : Type) (enc : TypeId × Value → H) :
    ReturnsInHanded {} Try.checked os 14 .any (Rows.fnExactLassoWellSpec.pre6 enc Try.prog Try.f14 Rows.fnExactLassoWellRow.domain false) (Rows.fnExactLassoWellSpec.post enc Try.prog Try.f14 false true false false) := by
  refine returnsInHanded_of_change (C := Try.checked) own started (by kernel_rfl) Try.func14
    (ChangeSpec.witness6 (enc := enc) (C := Try.checked) false ⟨#[], #[.agg #[.slice none 0 0, .slice none 0 0], .slice none 0 0, .agg #[.slice none 0 0, .slice none 0 0]], []⟩ 8 (by kernel_rfl) (by kernel_rfl) (by kernel_rfl) (by kernel_rfl)) ?_
  intro W base args ds gs before hval0 hW hcnd _
  have hval : ∀ (j : Nat) t v, Try.f14.params[j]? = some t → args[j]? = some v → Value.okWide Try.prog W .any base t v := hval0
  have hW' := hW
  obtain ⟨p, q, hA0, hV, rfl, hfz, hnd⟩ := hW
  have hA : DataW.TrodAll enc Try.prog W 0 (fun _ => true) true Try.f14.params.toList args.toList ds p := hA0
  rw [Try.params14] at hA hval
  obtain ⟨v0, vs0, d0, ds0, p0, q0, hargs, rfl, rfl, h0, r0⟩ := trodAll_cons hA
  obtain ⟨v1, vs1, d1, ds1, p1, q1, rfl, rfl, rfl, h1, r1⟩ := trodAll_cons r0
  obtain ⟨v2, vs2, d2, ds2, p2, q2, rfl, rfl, rfl, h2, r2⟩ := trodAll_cons r1
  obtain ⟨rfl, rfl, rfl⟩ := trodAll_nil r2
  obtain rfl : args = #[v0, v1, v2] := by cases args; simp_all
  obtain ⟨rfl, rfl⟩ := trodVars_none hV
  have k0 := h0
  have lt0 : ∀ x ∈ p0, x.block < W.heap.size := by obtain ⟨m, hm⟩ := k0; exact DataW.trod_lt m _ _ _ hm
  obtain ⟨c0, e0, y0, z0, m0, rfl, rfl, rfl, hy0, hz0⟩ := Go.Joins.open_agg2 Try.underlying60 (by kernel_rfl) (by kernel_rfl) (hval 0 60 v0 rfl rfl) h0
  obtain ⟨A0a, n0a, c0a, x0a, rfl, r0a⟩ := ri_of_trod Try.underlying27 Try.underlying2 (by kernel_rfl) hy0
  obtain ⟨A0b, n0b, c0b, x0b, rfl, r0b⟩ := rii_of_trod Try.underlying28 Try.underlying27 Try.underlying2 (by kernel_rfl) (by kernel_rfl) hz0
  have k1 := h1
  have lt1 : ∀ x ∈ p1, x.block < W.heap.size := by obtain ⟨m, hm⟩ := k1; exact DataW.trod_lt m _ _ _ hm
  obtain ⟨fuel1, hf1⟩ := h1
  obtain ⟨A1, n1, c1, rfl⟩ := okWide_slice Try.underlying85 (hval 1 85 v1 rfl rfl)
  obtain ⟨B1, m1, d1, ps1, e1, rr1⟩ := rps_of_trod Try.underlying85 Try.underlying139 (by kernel_rfl) ⟨⟨by kernel_rfl, by kernel_rfl⟩, ⟨rfl, rfl⟩, rfl, rfl⟩ Try.underlying27 Try.underlying27 Try.underlying2 (by kernel_rfl) hf1
  injection e1 with ea1 eb1 ec1
  subst ea1; subst eb1; subst ec1
  have k2 := h2
  have lt2 : ∀ x ∈ p2, x.block < W.heap.size := by obtain ⟨m, hm⟩ := k2; exact DataW.trod_lt m _ _ _ hm
  obtain ⟨c2, e2, y2, z2, m2, rfl, rfl, rfl, hy2, hz2⟩ := Go.Joins.open_agg2 Try.underlying86 (by kernel_rfl) (by kernel_rfl) (hval 2 86 v2 rfl rfl) h2
  obtain ⟨A2a, n2a, c2a, x2a, rfl, r2a⟩ := ri_of_trod Try.underlying27 Try.underlying2 (by kernel_rfl) hy2
  obtain ⟨A2b, n2b, c2b, x2b, rfl, r2b⟩ := ri_of_trod Try.underlying27 Try.underlying2 (by kernel_rfl) hz2
  clear hA0 hval0
  refine (walk _ _ _ _ _ _ (x0a, x0b) _ _ _ _ _ _ _ _ _ _ (x2a, x2b) W (RAv.of r0a r0b) rr1 (RTv.of r2a r2b)).mono fun e W' ⟨he, bel⟩ => ?_
  subst he
  exact ⟨_, rfl, _, _, _, [], _, [], hW', trodAll_mk1 (shut_bool Try.underlying4 _), (trodAll_cons_mk (Below.trod laidOut (by kernel_rfl) (of_decide_eq_true (by kernel_rfl)) k0 bel lt0) (trodAll_cons_mk (Below.trod laidOut (by kernel_rfl) (of_decide_eq_true (by kernel_rfl)) k1 bel lt1) (trodAll_cons_mk (Below.trod laidOut (by kernel_rfl) (of_decide_eq_true (by kernel_rfl)) k2 bel lt2) trodAll_mk0))), rfl, bel.frame _, fun h => by cases h⟩
theorem over : Rows.fnExactLassoWellRow.holds Try.pinned (OpenSpec.ofChange Rows.fnExactLassoWellSpec) :=
  OpenClaim.holds_of_wide 14 Try.f14 rfl rfl rfl rfl rfl rfl rfl ⟨rfl, rfl, rfl, rfl, rfl⟩ rfl rfl rfl rfl rfl (by kernel_rfl) Try.func14 (by kernel_rfl)
    (of_decide_eq_true (by kernel_rfl)) (by unfold Func.isWrapper; first | (rw [if_pos (by decide +kernel)]; kernel_rfl) | (rw [if_neg (by decide +kernel)]; exact ⟨rfl, rfl⟩))
    (fun os started H enc _ => lifted os started H enc)
/-- the statement -/
theorem proved : Rows.FnExactLassoWellSaid := over
end Go.Proofs.Ytefjhkcafcchlaa.fnExactLassoWell

