/- FnExactWellFrom: for every input the law returns true, and each argument reads as it read before. No condition. -/
import Derived.Test.YtjjaolndencplaaBn4
import Derived.Deep.RegionHeld3
namespace Go.Proofs.Ytjjaolndencplaa.fnExactWellFrom
open Go.ChangeShapes Go.WideShapes Go.ChangeAt Go.RowKit

set_option maxRecDepth 100000 in
set_option maxHeartbeats 1600000 in
theorem walk (A0a A0b : Option Addr) (n0a c0a n0b c0b : Nat) (z0 : ArD) (A1 : Option Addr) (n1 c1 : Nat) (z1 : List PairD) (w : World) (ha0 : RAv w (.slice A0a n0a c0a) (.slice A0b n0b c0b) z0.1 z0.2) (ha1 : RPS w A1 n1 c1 z1) :
    Calls Try.prog 4 #[.agg #[.slice A0a n0a c0a, .slice A0b n0b c0b], .slice A1 n1 c1] w fun e w' => e = .returned (.bool true) ∧ Below w.heap.size w w' := by
  have b1 := ha1.cap; have t1 := ha1.top
  by_cases hy0 : ¬ (((szAr z0) : Nat) : Int) ≤ 1048576
  · have E0 := Lib.hid (szF_no hy0)
    have hww := Below.refl w.heap.size w
    go_enter Try.func4, Try.ntmps4
    go_wp2_with fail
    have hww1 : Below w.heap.size w (w.alloc (.cells #[.slice A0a n0a c0a, .slice A0b n0b c0b] 25)) := below_alloc (Nat.le_refl _) hww
    have zw1 : w.heap.size + 1 = (w.alloc (.cells #[.slice A0a n0a c0a, .slice A0b n0b c0b] 25)).heap.size := by simp
    have bxP0 := Box.new w 25 #[.slice A0a n0a c0a, .slice A0b n0b c0b]
    generalize (w.alloc (.cells #[.slice A0a n0a c0a, .slice A0b n0b c0b] 25)) = w1 at hww1 zw1 bxP0 ⊢
    refine (szArena _ _ _ _ _ _ (Nat.le_refl _) (ha0.keep (keeps_below hww1)) (by omega) (by omega)).mono ?_; rintro e w2 ⟨rfl, hbw2⟩
    have zw2 := hbw2.size
    have hww2 := below_then hbw2 hww1.size hww1
    replace bxP0 := bxP0.below hbw2 bxP0.lt
    rw [E0.out]
    go_wp2
    go_ret
    exact ⟨rfl, hww2⟩
  have hz0 : (((szAr z0) : Nat) : Int) ≤ 1048576 := by omega
  have hm0 : (szAr z0) ≤ 1048576 := by omega
  have E0 := Lib.hid (szF_yes hz0)
  clear hy0
  by_cases hy1 : ¬ ((szPs z1 : Nat) : Int) ≤ 1048576 - (((szAr z0) : Nat) : Int)
  · have E1 := Lib.hid (szF_no hy1)
    have hww := Below.refl w.heap.size w
    go_enter Try.func4, Try.ntmps4
    go_wp2_with fail
    have hww1 : Below w.heap.size w (w.alloc (.cells #[.slice A0a n0a c0a, .slice A0b n0b c0b] 25)) := below_alloc (Nat.le_refl _) hww
    have zw1 : w.heap.size + 1 = (w.alloc (.cells #[.slice A0a n0a c0a, .slice A0b n0b c0b] 25)).heap.size := by simp
    have bxP0 := Box.new w 25 #[.slice A0a n0a c0a, .slice A0b n0b c0b]
    generalize (w.alloc (.cells #[.slice A0a n0a c0a, .slice A0b n0b c0b] 25)) = w1 at hww1 zw1 bxP0 ⊢
    refine (szArena _ _ _ _ _ _ (Nat.le_refl _) (ha0.keep (keeps_below hww1)) (by omega) (by omega)).mono ?_; rintro e w2 ⟨rfl, hbw2⟩
    have zw2 := hbw2.size
    have hww2 := below_then hbw2 hww1.size hww1
    replace bxP0 := bxP0.below hbw2 bxP0.lt
    rw [E0.out]
    have qP00 : w2.cell? ⟨w.heap.size, 0, none⟩ = some (.slice A0a n0a c0a) := bxP0.cell 0
    have pP00 : ∀ o, (w2.alloc o).cell? ⟨w.heap.size, 0, none⟩ = some (.slice A0a n0a c0a) := fun o => keepA qP00
    have rP00 : w.heap.size < w2.heap.size := bxP0.lt
    have qP01 : w2.cell? ⟨w.heap.size, 1, none⟩ = some (.slice A0b n0b c0b) := bxP0.cell 1
    have pP01 : ∀ o, (w2.alloc o).cell? ⟨w.heap.size, 1, none⟩ = some (.slice A0b n0b c0b) := fun o => keepA qP01
    have rP01 : w.heap.size < w2.heap.size := bxP0.lt
    go_wp2_with fail
    clear qP00 pP00 rP00 qP01 pP01 rP01
    refine (szPairS _ _ _ _ _ _ _ (Nat.le_refl _) (ha1.keep (keeps_below hww2)) (by omega) (by omega)).mono ?_; rintro e w3 ⟨rfl, hbw3⟩
    have zw3 := hbw3.size
    have hww3 := below_then hbw3 hww2.size hww2
    replace bxP0 := bxP0.below hbw3 bxP0.lt
    rw [E1.out]
    go_wp2
    go_ret
    exact ⟨rfl, hww3⟩
  have hz1 : ((szPs z1 : Nat) : Int) ≤ 1048576 - (((szAr z0) : Nat) : Int) := by omega
  have hm1 : szPs z1 ≤ 1048576 := by omega
  have E1 := Lib.hid (szF_yes hz1)
  clear hy1
  have hR := welR_len z0 z1
  have hT := artot_sz z0
  have hT2 := totP_sz z1
  have hww := Below.refl w.heap.size w
  go_enter Try.func4, Try.ntmps4
  go_wp2_with fail
  have hww1 : Below w.heap.size w (w.alloc (.cells #[.slice A0a n0a c0a, .slice A0b n0b c0b] 25)) := below_alloc (Nat.le_refl _) hww
  have zw1 : w.heap.size + 1 = (w.alloc (.cells #[.slice A0a n0a c0a, .slice A0b n0b c0b] 25)).heap.size := by simp
  have bxP0 := Box.new w 25 #[.slice A0a n0a c0a, .slice A0b n0b c0b]
  generalize (w.alloc (.cells #[.slice A0a n0a c0a, .slice A0b n0b c0b] 25)) = w1 at hww1 zw1 bxP0 ⊢
  refine (szArena _ _ _ _ _ _ (Nat.le_refl _) (ha0.keep (keeps_below hww1)) (by omega) (by omega)).mono ?_; rintro e w2 ⟨rfl, hbw2⟩
  have zw2 := hbw2.size
  have hww2 := below_then hbw2 hww1.size hww1
  replace bxP0 := bxP0.below hbw2 bxP0.lt
  rw [E0.out]
  have qP00 : w2.cell? ⟨w.heap.size, 0, none⟩ = some (.slice A0a n0a c0a) := bxP0.cell 0
  have pP00 : ∀ o, (w2.alloc o).cell? ⟨w.heap.size, 0, none⟩ = some (.slice A0a n0a c0a) := fun o => keepA qP00
  have rP00 : w.heap.size < w2.heap.size := bxP0.lt
  have qP01 : w2.cell? ⟨w.heap.size, 1, none⟩ = some (.slice A0b n0b c0b) := bxP0.cell 1
  have pP01 : ∀ o, (w2.alloc o).cell? ⟨w.heap.size, 1, none⟩ = some (.slice A0b n0b c0b) := fun o => keepA qP01
  have rP01 : w.heap.size < w2.heap.size := bxP0.lt
  go_wp2_with fail
  clear qP00 pP00 rP00 qP01 pP01 rP01
  refine (szPairS _ _ _ _ _ _ _ (Nat.le_refl _) (ha1.keep (keeps_below hww2)) (by omega) (by omega)).mono ?_; rintro e w3 ⟨rfl, hbw3⟩
  have zw3 := hbw3.size
  have hww3 := below_then hbw3 hww2.size hww2
  replace bxP0 := bxP0.below hbw3 bxP0.lt
  rw [E1.out]
  have qP00 : w3.cell? ⟨w.heap.size, 0, none⟩ = some (.slice A0a n0a c0a) := bxP0.cell 0
  have pP00 : ∀ o, (w3.alloc o).cell? ⟨w.heap.size, 0, none⟩ = some (.slice A0a n0a c0a) := fun o => keepA qP00
  have rP00 : w.heap.size < w3.heap.size := bxP0.lt
  have qP01 : w3.cell? ⟨w.heap.size, 1, none⟩ = some (.slice A0b n0b c0b) := bxP0.cell 1
  have pP01 : ∀ o, (w3.alloc o).cell? ⟨w.heap.size, 1, none⟩ = some (.slice A0b n0b c0b) := fun o => keepA qP01
  have rP01 : w.heap.size < w3.heap.size := bxP0.lt
  go_wp2_with fail
  clear qP00 pP00 rP00 qP01 pP01 rP01
  refine (toArena _ _ _ _ _ (Nat.le_refl _) (ha0.keep (keeps_below hww3)) hm0).mono ?_; rintro e w4 ⟨vy0a, vy0b, rfl, oy0, hbw4⟩
  obtain ⟨Ay0a, cy0a, Ay0b, cy0b, rfl, rfl⟩ := oy0.form
  have zw4 := hbw4.size
  have hww4 := below_then hbw4 hww3.size hww3
  replace bxP0 := bxP0.below hbw4 bxP0.lt
  have fy0 := Far.refl w3.heap.size w4
  have qP00 : w4.cell? ⟨w.heap.size, 0, none⟩ = some (.slice A0a n0a c0a) := bxP0.cell 0
  have pP00 : ∀ o, (w4.alloc o).cell? ⟨w.heap.size, 0, none⟩ = some (.slice A0a n0a c0a) := fun o => keepA qP00
  have rP00 : w.heap.size < w4.heap.size := bxP0.lt
  have qP01 : w4.cell? ⟨w.heap.size, 1, none⟩ = some (.slice A0b n0b c0b) := bxP0.cell 1
  have pP01 : ∀ o, (w4.alloc o).cell? ⟨w.heap.size, 1, none⟩ = some (.slice A0b n0b c0b) := fun o => keepA qP01
  have rP01 : w.heap.size < w4.heap.size := bxP0.lt
  go_wp2_with fail
  clear qP00 pP00 rP00 qP01 pP01 rP01
  refine (toPairS _ _ _ _ _ _ (Nat.le_refl _) (ha1.keep (keeps_below hww4)) hm1).mono ?_; rintro e w5 ⟨vy1, rfl, oy1, hbw5⟩
  obtain ⟨Ay1, cy1, rfl⟩ := oy1.form
  have zw5 := hbw5.size
  have hww5 := below_then hbw5 hww4.size hww4
  replace fy0 := fy0.step hbw5
  replace bxP0 := bxP0.below hbw5 bxP0.lt
  have fy1 := Far.refl w4.heap.size w5
  have qP00 : w5.cell? ⟨w.heap.size, 0, none⟩ = some (.slice A0a n0a c0a) := bxP0.cell 0
  have pP00 : ∀ o, (w5.alloc o).cell? ⟨w.heap.size, 0, none⟩ = some (.slice A0a n0a c0a) := fun o => keepA qP00
  have rP00 : w.heap.size < w5.heap.size := bxP0.lt
  have qP01 : w5.cell? ⟨w.heap.size, 1, none⟩ = some (.slice A0b n0b c0b) := bxP0.cell 1
  have pP01 : ∀ o, (w5.alloc o).cell? ⟨w.heap.size, 1, none⟩ = some (.slice A0b n0b c0b) := fun o => keepA qP01
  have rP01 : w.heap.size < w5.heap.size := bxP0.lt
  go_wp2_with fail
  clear qP00 pP00 rP00 qP01 pP01 rP01
  refine (specWellFromV _ _ _ _ _ _ _ _ _ (Nat.le_refl _) (oy0.hold fy0).reads (oy1.hold fy1).reads).mono ?_; rintro e w6 ⟨vr, rfl, or, hbw6⟩
  obtain ⟨Ar, cr, rfl⟩ := or.form
  have zw6 := hbw6.size
  have hww6 := below_then hbw6 hww5.size hww5
  replace fy0 := fy0.step hbw6
  replace fy1 := fy1.step hbw6
  replace bxP0 := bxP0.below hbw6 bxP0.lt
  have fr := Far.refl w5.heap.size w6
  clear oy0 fy0
  clear oy1 fy1
  have qP00 : w6.cell? ⟨w.heap.size, 0, none⟩ = some (.slice A0a n0a c0a) := bxP0.cell 0
  have pP00 : ∀ o, (w6.alloc o).cell? ⟨w.heap.size, 0, none⟩ = some (.slice A0a n0a c0a) := fun o => keepA qP00
  have rP00 : w.heap.size < w6.heap.size := bxP0.lt
  have qP01 : w6.cell? ⟨w.heap.size, 1, none⟩ = some (.slice A0b n0b c0b) := bxP0.cell 1
  have pP01 : ∀ o, (w6.alloc o).cell? ⟨w.heap.size, 1, none⟩ = some (.slice A0b n0b c0b) := fun o => keepA qP01
  have rP01 : w.heap.size < w6.heap.size := bxP0.lt
  go_wp2_with fail
  clear qP00 pP00 rP00 qP01 pP01 rP01
  refine (toArena _ _ _ _ _ (Nat.le_refl _) (ha0.keep (keeps_below hww6)) hm0).mono ?_; rintro e w7 ⟨vx0a, vx0b, rfl, ox0, hbw7⟩
  obtain ⟨Ax0a, cx0a, Ax0b, cx0b, rfl, rfl⟩ := ox0.form
  have zw7 := hbw7.size
  have hww7 := below_then hbw7 hww6.size hww6
  replace fr := fr.step hbw7
  replace bxP0 := bxP0.below hbw7 bxP0.lt
  have fx0 := Far.refl w6.heap.size w7
  have qP00 : w7.cell? ⟨w.heap.size, 0, none⟩ = some (.slice A0a n0a c0a) := bxP0.cell 0
  have pP00 : ∀ o, (w7.alloc o).cell? ⟨w.heap.size, 0, none⟩ = some (.slice A0a n0a c0a) := fun o => keepA qP00
  have rP00 : w.heap.size < w7.heap.size := bxP0.lt
  have qP01 : w7.cell? ⟨w.heap.size, 1, none⟩ = some (.slice A0b n0b c0b) := bxP0.cell 1
  have pP01 : ∀ o, (w7.alloc o).cell? ⟨w.heap.size, 1, none⟩ = some (.slice A0b n0b c0b) := fun o => keepA qP01
  have rP01 : w.heap.size < w7.heap.size := bxP0.lt
  go_wp2_with fail
  clear qP00 pP00 rP00 qP01 pP01 rP01
  have hww8 : Below w.heap.size w (w7.alloc (.cells #[.slice Ax0a (z0).1.length cx0a, .slice Ax0b (z0).2.length cx0b] 30)) := below_alloc (Nat.le_refl _) hww7
  have zw8 : w7.heap.size + 1 = (w7.alloc (.cells #[.slice Ax0a (z0).1.length cx0a, .slice Ax0b (z0).2.length cx0b] 30)).heap.size := by simp
  replace fr := fr.step (below_alloc (o := (.cells #[.slice Ax0a (z0).1.length cx0a, .slice Ax0b (z0).2.length cx0b] 30)) (Nat.le_refl _) (Below.refl _ _))
  replace fx0 := fx0.step (below_alloc (o := (.cells #[.slice Ax0a (z0).1.length cx0a, .slice Ax0b (z0).2.length cx0b] 30)) (Nat.le_refl _) (Below.refl _ _))
  replace bxP0 := bxP0.alloc (.cells #[.slice Ax0a (z0).1.length cx0a, .slice Ax0b (z0).2.length cx0b] 30)
  have bxx0 := Box.new w7 30 #[.slice Ax0a (z0).1.length cx0a, .slice Ax0b (z0).2.length cx0b]
  generalize (w7.alloc (.cells #[.slice Ax0a (z0).1.length cx0a, .slice Ax0b (z0).2.length cx0b] 30)) = w8 at hww8 zw8 fr fx0 bxP0 bxx0 ⊢
  refine (toPairS _ _ _ _ _ _ (Nat.le_refl _) (ha1.keep (keeps_below hww8)) hm1).mono ?_; rintro e w9 ⟨vx1, rfl, ox1, hbw9⟩
  obtain ⟨Ax1, cx1, rfl⟩ := ox1.form
  have zw9 := hbw9.size
  have hww9 := below_then hbw9 hww8.size hww8
  replace fr := fr.step hbw9
  replace fx0 := fx0.step hbw9
  replace bxP0 := bxP0.below hbw9 bxP0.lt
  replace bxx0 := bxx0.below hbw9 bxx0.lt
  have fx1 := Far.refl w8.heap.size w9
  have qP00 : w9.cell? ⟨w.heap.size, 0, none⟩ = some (.slice A0a n0a c0a) := bxP0.cell 0
  have pP00 : ∀ o, (w9.alloc o).cell? ⟨w.heap.size, 0, none⟩ = some (.slice A0a n0a c0a) := fun o => keepA qP00
  have rP00 : w.heap.size < w9.heap.size := bxP0.lt
  have qP01 : w9.cell? ⟨w.heap.size, 1, none⟩ = some (.slice A0b n0b c0b) := bxP0.cell 1
  have pP01 : ∀ o, (w9.alloc o).cell? ⟨w.heap.size, 1, none⟩ = some (.slice A0b n0b c0b) := fun o => keepA qP01
  have rP01 : w.heap.size < w9.heap.size := bxP0.lt
  have qx00 : w9.cell? ⟨w7.heap.size, 0, none⟩ = some (.slice Ax0a (z0).1.length cx0a) := bxx0.cell 0
  have px00 : ∀ o, (w9.alloc o).cell? ⟨w7.heap.size, 0, none⟩ = some (.slice Ax0a (z0).1.length cx0a) := fun o => keepA qx00
  have rx00 : w7.heap.size < w9.heap.size := bxx0.lt
  have qx01 : w9.cell? ⟨w7.heap.size, 1, none⟩ = some (.slice Ax0b (z0).2.length cx0b) := bxx0.cell 1
  have px01 : ∀ o, (w9.alloc o).cell? ⟨w7.heap.size, 1, none⟩ = some (.slice Ax0b (z0).2.length cx0b) := fun o => keepA qx01
  have rx01 : w7.heap.size < w9.heap.size := bxx0.lt
  go_wp2_with fail
  clear qP00 pP00 rP00 qP01 pP01 rP01 qx00 px00 rx00 qx01 px01 rx01
  refine (implWellFromV _ _ _ _ _ _ _ _ _ (Nat.le_refl _) (ox0.hold fx0).reads (ox1.hold fx1).reads).mono ?_; rintro e w10 ⟨vg, rfl, og, hbw10⟩
  obtain ⟨Ag, cg, rfl⟩ := og.form
  have zw10 := hbw10.size
  have hww10 := below_then hbw10 hww9.size hww9
  replace fr := fr.step hbw10
  replace fx0 := fx0.step hbw10
  replace fx1 := fx1.step hbw10
  replace bxP0 := bxP0.below hbw10 bxP0.lt
  replace bxx0 := bxx0.below hbw10 bxx0.lt
  have fg := Far.refl w9.heap.size w10
  have qP00 : w10.cell? ⟨w.heap.size, 0, none⟩ = some (.slice A0a n0a c0a) := bxP0.cell 0
  have pP00 : ∀ o, (w10.alloc o).cell? ⟨w.heap.size, 0, none⟩ = some (.slice A0a n0a c0a) := fun o => keepA qP00
  have rP00 : w.heap.size < w10.heap.size := bxP0.lt
  have qP01 : w10.cell? ⟨w.heap.size, 1, none⟩ = some (.slice A0b n0b c0b) := bxP0.cell 1
  have pP01 : ∀ o, (w10.alloc o).cell? ⟨w.heap.size, 1, none⟩ = some (.slice A0b n0b c0b) := fun o => keepA qP01
  have rP01 : w.heap.size < w10.heap.size := bxP0.lt
  have qx00 : w10.cell? ⟨w7.heap.size, 0, none⟩ = some (.slice Ax0a (z0).1.length cx0a) := bxx0.cell 0
  have px00 : ∀ o, (w10.alloc o).cell? ⟨w7.heap.size, 0, none⟩ = some (.slice Ax0a (z0).1.length cx0a) := fun o => keepA qx00
  have rx00 : w7.heap.size < w10.heap.size := bxx0.lt
  have qx01 : w10.cell? ⟨w7.heap.size, 1, none⟩ = some (.slice Ax0b (z0).2.length cx0b) := bxx0.cell 1
  have px01 : ∀ o, (w10.alloc o).cell? ⟨w7.heap.size, 1, none⟩ = some (.slice Ax0b (z0).2.length cx0b) := fun o => keepA qx01
  have rx01 : w7.heap.size < w10.heap.size := bxx0.lt
  go_wp2_with fail
  clear qP00 pP00 rP00 qP01 pP01 rP01 qx00 px00 rx00 qx01 px01 rx01
  refine (eqInts _ _ _ _ _ _ _ _ _ (og.hold fg).reads (or.hold fr).reads).mono ?_; rintro e w11 ⟨rfl, hqtw11⟩
  have hbw11 := below_qt hqtw11 (Below.refl w10.heap.size w10)
  have zw11 := hbw11.size
  have hww11 := below_then hbw11 hww10.size hww10
  replace fr := fr.step hbw11
  replace fx0 := fx0.step hbw11
  replace fx1 := fx1.step hbw11
  replace fg := fg.step hbw11
  replace bxP0 := bxP0.below hbw11 bxP0.lt
  replace bxx0 := bxx0.below hbw11 bxx0.lt
  rw [eqL_self]
  have qP00 : w11.cell? ⟨w.heap.size, 0, none⟩ = some (.slice A0a n0a c0a) := bxP0.cell 0
  have pP00 : ∀ o, (w11.alloc o).cell? ⟨w.heap.size, 0, none⟩ = some (.slice A0a n0a c0a) := fun o => keepA qP00
  have rP00 : w.heap.size < w11.heap.size := bxP0.lt
  have qP01 : w11.cell? ⟨w.heap.size, 1, none⟩ = some (.slice A0b n0b c0b) := bxP0.cell 1
  have pP01 : ∀ o, (w11.alloc o).cell? ⟨w.heap.size, 1, none⟩ = some (.slice A0b n0b c0b) := fun o => keepA qP01
  have rP01 : w.heap.size < w11.heap.size := bxP0.lt
  have qx00 : w11.cell? ⟨w7.heap.size, 0, none⟩ = some (.slice Ax0a (z0).1.length cx0a) := bxx0.cell 0
  have px00 : ∀ o, (w11.alloc o).cell? ⟨w7.heap.size, 0, none⟩ = some (.slice Ax0a (z0).1.length cx0a) := fun o => keepA qx00
  have rx00 : w7.heap.size < w11.heap.size := bxx0.lt
  have qx01 : w11.cell? ⟨w7.heap.size, 1, none⟩ = some (.slice Ax0b (z0).2.length cx0b) := bxx0.cell 1
  have px01 : ∀ o, (w11.alloc o).cell? ⟨w7.heap.size, 1, none⟩ = some (.slice Ax0b (z0).2.length cx0b) := fun o => keepA qx01
  have rx01 : w7.heap.size < w11.heap.size := bxx0.lt
  go_wp2_with fail
  clear qP00 pP00 rP00 qP01 pP01 rP01 qx00 px00 rx00 qx01 px01 rx01
  have qP00 : w11.cell? ⟨w.heap.size, 0, none⟩ = some (.slice A0a n0a c0a) := bxP0.cell 0
  have qP01 : w11.cell? ⟨w.heap.size, 1, none⟩ = some (.slice A0b n0b c0b) := bxP0.cell 1
  have rP0 : w.heap.size < w11.heap.size := bxP0.lt
  have qx00 : w11.cell? ⟨w7.heap.size, 0, none⟩ = some (.slice Ax0a (z0).1.length cx0a) := bxx0.cell 0
  have qx01 : w11.cell? ⟨w7.heap.size, 1, none⟩ = some (.slice Ax0b (z0).2.length cx0b) := bxx0.cell 1
  have rx0 : w7.heap.size < w11.heap.size := bxx0.lt
  go_region_held3 (fun w' => w'.cell? ⟨w.heap.size, 0, none⟩ = some (.slice A0a n0a c0a) ∧ w'.cell? ⟨w.heap.size, 1, none⟩ = some (.slice A0b n0b c0b) ∧ w'.cell? ⟨w7.heap.size, 0, none⟩ = some (.slice Ax0a (z0).1.length cx0a) ∧ w'.cell? ⟨w7.heap.size, 1, none⟩ = some (.slice Ax0b (z0).2.length cx0b))
    (refine ⟨?_, ?_, ?_, ?_⟩ <;> repeat (first | with_reducible assumption | with_reducible refine keepD ?_ | with_reducible refine keepA ?_))
    (first
      | (go_at_call 8
         refine (toArena _ _ _ _ _ (Nat.le_refl _) (ha0.keep (keeps_below (Below.drew hww11))) hm0).mono ?_; rintro e w12 ⟨vt0a, vt0b, rfl, ot0, hbw12⟩
         replace hbw12 := below_undrew hbw12
         obtain ⟨At0a, ct0a, At0b, ct0b, rfl, rfl⟩ := ot0.form
         have zw12 := hbw12.size
         have hww12 := below_then hbw12 hww11.size hww11
         replace fr := fr.step hbw12
         replace fx0 := fx0.step hbw12
         replace fx1 := fx1.step hbw12
         replace fg := fg.step hbw12
         replace bxP0 := bxP0.below hbw12 bxP0.lt
         replace bxx0 := bxx0.below hbw12 bxx0.lt
         have ft0 := Far.refl w11.heap.size w12
         have qP00 : w12.cell? ⟨w.heap.size, 0, none⟩ = some (.slice A0a n0a c0a) := bxP0.cell 0
         have qP01 : w12.cell? ⟨w.heap.size, 1, none⟩ = some (.slice A0b n0b c0b) := bxP0.cell 1
         have rP0 : w.heap.size < w12.heap.size := bxP0.lt
         have qx00 : w12.cell? ⟨w7.heap.size, 0, none⟩ = some (.slice Ax0a (z0).1.length cx0a) := bxx0.cell 0
         have qx01 : w12.cell? ⟨w7.heap.size, 1, none⟩ = some (.slice Ax0b (z0).2.length cx0b) := bxx0.cell 1
         have rx0 : w7.heap.size < w12.heap.size := bxx0.lt)
      | (go_at_call 12
         refine (eqArena _ _ _ _ _ _ _ _ _ _ (Nat.le_refl _) (ox0.hold fx0).reads (ot0.hold ft0).reads).mono ?_; rintro e w13 ⟨rfl, hbw13⟩
         have zw13 := hbw13.size
         have hww13 := below_then hbw13 hww12.size hww12
         replace fr := fr.step hbw13
         replace fx0 := fx0.step hbw13
         replace fx1 := fx1.step hbw13
         replace fg := fg.step hbw13
         replace ft0 := ft0.step hbw13
         replace bxP0 := bxP0.below hbw13 bxP0.lt
         replace bxx0 := bxx0.below hbw13 bxx0.lt
         rw [eqAr_self]
         have qP00 : w13.cell? ⟨w.heap.size, 0, none⟩ = some (.slice A0a n0a c0a) := bxP0.cell 0
         have qP01 : w13.cell? ⟨w.heap.size, 1, none⟩ = some (.slice A0b n0b c0b) := bxP0.cell 1
         have rP0 : w.heap.size < w13.heap.size := bxP0.lt
         have qx00 : w13.cell? ⟨w7.heap.size, 0, none⟩ = some (.slice Ax0a (z0).1.length cx0a) := bxx0.cell 0
         have qx01 : w13.cell? ⟨w7.heap.size, 1, none⟩ = some (.slice Ax0b (z0).2.length cx0b) := bxx0.cell 1
         have rx0 : w7.heap.size < w13.heap.size := bxx0.lt))
  clear qP00 qP01 rP0 qx00 qx01 rx0
  clear ot0 ft0
  have qP00 : w13.cell? ⟨w.heap.size, 0, none⟩ = some (.slice A0a n0a c0a) := bxP0.cell 0
  have pP00 : ∀ o, (w13.alloc o).cell? ⟨w.heap.size, 0, none⟩ = some (.slice A0a n0a c0a) := fun o => keepA qP00
  have rP00 : w.heap.size < w13.heap.size := bxP0.lt
  have qP01 : w13.cell? ⟨w.heap.size, 1, none⟩ = some (.slice A0b n0b c0b) := bxP0.cell 1
  have pP01 : ∀ o, (w13.alloc o).cell? ⟨w.heap.size, 1, none⟩ = some (.slice A0b n0b c0b) := fun o => keepA qP01
  have rP01 : w.heap.size < w13.heap.size := bxP0.lt
  have qx00 : w13.cell? ⟨w7.heap.size, 0, none⟩ = some (.slice Ax0a (z0).1.length cx0a) := bxx0.cell 0
  have px00 : ∀ o, (w13.alloc o).cell? ⟨w7.heap.size, 0, none⟩ = some (.slice Ax0a (z0).1.length cx0a) := fun o => keepA qx00
  have rx00 : w7.heap.size < w13.heap.size := bxx0.lt
  have qx01 : w13.cell? ⟨w7.heap.size, 1, none⟩ = some (.slice Ax0b (z0).2.length cx0b) := bxx0.cell 1
  have px01 : ∀ o, (w13.alloc o).cell? ⟨w7.heap.size, 1, none⟩ = some (.slice Ax0b (z0).2.length cx0b) := fun o => keepA qx01
  have rx01 : w7.heap.size < w13.heap.size := bxx0.lt
  go_wp2_with fail
  clear qP00 pP00 rP00 qP01 pP01 rP01 qx00 px00 rx00 qx01 px01 rx01
  refine (toPairS _ _ _ _ _ _ (Nat.le_refl _) (ha1.keep (keeps_below hww13)) hm1).mono ?_; rintro e w14 ⟨vt1, rfl, ot1, hbw14⟩
  obtain ⟨At1, ct1, rfl⟩ := ot1.form
  have zw14 := hbw14.size
  have hww14 := below_then hbw14 hww13.size hww13
  replace fr := fr.step hbw14
  replace fx0 := fx0.step hbw14
  replace fx1 := fx1.step hbw14
  replace fg := fg.step hbw14
  replace bxP0 := bxP0.below hbw14 bxP0.lt
  replace bxx0 := bxx0.below hbw14 bxx0.lt
  have ft1 := Far.refl w13.heap.size w14
  have qP00 : w14.cell? ⟨w.heap.size, 0, none⟩ = some (.slice A0a n0a c0a) := bxP0.cell 0
  have pP00 : ∀ o, (w14.alloc o).cell? ⟨w.heap.size, 0, none⟩ = some (.slice A0a n0a c0a) := fun o => keepA qP00
  have rP00 : w.heap.size < w14.heap.size := bxP0.lt
  have qP01 : w14.cell? ⟨w.heap.size, 1, none⟩ = some (.slice A0b n0b c0b) := bxP0.cell 1
  have pP01 : ∀ o, (w14.alloc o).cell? ⟨w.heap.size, 1, none⟩ = some (.slice A0b n0b c0b) := fun o => keepA qP01
  have rP01 : w.heap.size < w14.heap.size := bxP0.lt
  have qx00 : w14.cell? ⟨w7.heap.size, 0, none⟩ = some (.slice Ax0a (z0).1.length cx0a) := bxx0.cell 0
  have px00 : ∀ o, (w14.alloc o).cell? ⟨w7.heap.size, 0, none⟩ = some (.slice Ax0a (z0).1.length cx0a) := fun o => keepA qx00
  have rx00 : w7.heap.size < w14.heap.size := bxx0.lt
  have qx01 : w14.cell? ⟨w7.heap.size, 1, none⟩ = some (.slice Ax0b (z0).2.length cx0b) := bxx0.cell 1
  have px01 : ∀ o, (w14.alloc o).cell? ⟨w7.heap.size, 1, none⟩ = some (.slice Ax0b (z0).2.length cx0b) := fun o => keepA qx01
  have rx01 : w7.heap.size < w14.heap.size := bxx0.lt
  go_wp2_with fail
  clear qP00 pP00 rP00 qP01 pP01 rP01 qx00 px00 rx00 qx01 px01 rx01
  refine (eqPairS _ _ _ _ _ _ _ _ _ _ (Nat.le_refl _) (ox1.hold fx1).reads (ot1.hold ft1).reads).mono ?_; rintro e w15 ⟨rfl, hbw15⟩
  have zw15 := hbw15.size
  have hww15 := below_then hbw15 hww14.size hww14
  replace fr := fr.step hbw15
  replace fx0 := fx0.step hbw15
  replace fx1 := fx1.step hbw15
  replace fg := fg.step hbw15
  replace ft1 := ft1.step hbw15
  replace bxP0 := bxP0.below hbw15 bxP0.lt
  replace bxx0 := bxx0.below hbw15 bxx0.lt
  rw [eqPs_self]
  clear ot1 ft1
  have qP00 : w15.cell? ⟨w.heap.size, 0, none⟩ = some (.slice A0a n0a c0a) := bxP0.cell 0
  have pP00 : ∀ o, (w15.alloc o).cell? ⟨w.heap.size, 0, none⟩ = some (.slice A0a n0a c0a) := fun o => keepA qP00
  have rP00 : w.heap.size < w15.heap.size := bxP0.lt
  have qP01 : w15.cell? ⟨w.heap.size, 1, none⟩ = some (.slice A0b n0b c0b) := bxP0.cell 1
  have pP01 : ∀ o, (w15.alloc o).cell? ⟨w.heap.size, 1, none⟩ = some (.slice A0b n0b c0b) := fun o => keepA qP01
  have rP01 : w.heap.size < w15.heap.size := bxP0.lt
  have qx00 : w15.cell? ⟨w7.heap.size, 0, none⟩ = some (.slice Ax0a (z0).1.length cx0a) := bxx0.cell 0
  have px00 : ∀ o, (w15.alloc o).cell? ⟨w7.heap.size, 0, none⟩ = some (.slice Ax0a (z0).1.length cx0a) := fun o => keepA qx00
  have rx00 : w7.heap.size < w15.heap.size := bxx0.lt
  have qx01 : w15.cell? ⟨w7.heap.size, 1, none⟩ = some (.slice Ax0b (z0).2.length cx0b) := bxx0.cell 1
  have px01 : ∀ o, (w15.alloc o).cell? ⟨w7.heap.size, 1, none⟩ = some (.slice Ax0b (z0).2.length cx0b) := fun o => keepA qx01
  have rx01 : w7.heap.size < w15.heap.size := bxx0.lt
  go_wp2_with fail
  clear qP00 pP00 rP00 qP01 pP01 rP01 qx00 px00 rx00 qx01 px01 rx01
  refine (markArenaU _ _ _ (1) _ _ _ (by omega) ox0 fx0 (by omega) (by omega)).mono ?_; rintro e w16 ⟨rfl, onx0, chw16⟩
  have zw16 := chw16.size
  have blw16 : Below w6.heap.size w15 w16 := chw16.below (by omega) (fun x h => h.1)
  have hww16 := below_then blw16 (by omega) hww15
  replace fr := fr.mark chw16 (by omega)
  replace fx1 := fx1.mark chw16 (by omega)
  replace fg := fg.mark chw16 (by omega)
  clear ox0 fx0; have ox0 := onx0; have fx0 := Far.refl w6.heap.size w16
  replace bxP0 := bxP0.chg chw16 (by omega)
  replace bxx0 := bxx0.chg chw16 (by omega)
  clear ox0 fx0
  clear bxx0
  have qP00 : w16.cell? ⟨w.heap.size, 0, none⟩ = some (.slice A0a n0a c0a) := bxP0.cell 0
  have pP00 : ∀ o, (w16.alloc o).cell? ⟨w.heap.size, 0, none⟩ = some (.slice A0a n0a c0a) := fun o => keepA qP00
  have rP00 : w.heap.size < w16.heap.size := bxP0.lt
  have qP01 : w16.cell? ⟨w.heap.size, 1, none⟩ = some (.slice A0b n0b c0b) := bxP0.cell 1
  have pP01 : ∀ o, (w16.alloc o).cell? ⟨w.heap.size, 1, none⟩ = some (.slice A0b n0b c0b) := fun o => keepA qP01
  have rP01 : w.heap.size < w16.heap.size := bxP0.lt
  go_wp2_with fail
  clear qP00 pP00 rP00 qP01 pP01 rP01
  refine (markPairSU _ _ _ _ (1 + (artot (z0).1 (z0).2 : Int)) _ _ _ (by omega) ox1 fx1 (by omega) (by omega)).mono ?_; rintro e w17 ⟨rfl, onx1, chw17⟩
  have zw17 := chw17.size
  have blw17 : Below w8.heap.size w16 w17 := chw17.below (by omega) (fun x h => h.1)
  have hww17 := below_then blw17 (by omega) hww16
  replace fr := fr.mark chw17 (by omega)
  replace fg := fg.mark chw17 (by omega)
  clear ox1 fx1; have ox1 := onx1; have fx1 := Far.refl w8.heap.size w17
  replace bxP0 := bxP0.chg chw17 (by omega)
  clear ox1 fx1
  have qP00 : w17.cell? ⟨w.heap.size, 0, none⟩ = some (.slice A0a n0a c0a) := bxP0.cell 0
  have pP00 : ∀ o, (w17.alloc o).cell? ⟨w.heap.size, 0, none⟩ = some (.slice A0a n0a c0a) := fun o => keepA qP00
  have rP00 : w.heap.size < w17.heap.size := bxP0.lt
  have qP01 : w17.cell? ⟨w.heap.size, 1, none⟩ = some (.slice A0b n0b c0b) := bxP0.cell 1
  have pP01 : ∀ o, (w17.alloc o).cell? ⟨w.heap.size, 1, none⟩ = some (.slice A0b n0b c0b) := fun o => keepA qP01
  have rP01 : w.heap.size < w17.heap.size := bxP0.lt
  go_wp2_with fail
  clear qP00 pP00 rP00 qP01 pP01 rP01
  refine (eqInts _ _ _ _ _ _ _ _ _ (og.hold fg).reads (or.hold fr).reads).mono ?_; rintro e w18 ⟨rfl, hqtw18⟩
  have hbw18 := below_qt hqtw18 (Below.refl w17.heap.size w17)
  have zw18 := hbw18.size
  have hww18 := below_then hbw18 hww17.size hww17
  replace fr := fr.step hbw18
  replace fg := fg.step hbw18
  replace bxP0 := bxP0.below hbw18 bxP0.lt
  rw [eqL_self]
  have qP00 : w18.cell? ⟨w.heap.size, 0, none⟩ = some (.slice A0a n0a c0a) := bxP0.cell 0
  have pP00 : ∀ o, (w18.alloc o).cell? ⟨w.heap.size, 0, none⟩ = some (.slice A0a n0a c0a) := fun o => keepA qP00
  have rP00 : w.heap.size < w18.heap.size := bxP0.lt
  have qP01 : w18.cell? ⟨w.heap.size, 1, none⟩ = some (.slice A0b n0b c0b) := bxP0.cell 1
  have pP01 : ∀ o, (w18.alloc o).cell? ⟨w.heap.size, 1, none⟩ = some (.slice A0b n0b c0b) := fun o => keepA qP01
  have rP01 : w.heap.size < w18.heap.size := bxP0.lt
  go_wp2_with fail
  clear qP00 pP00 rP00 qP01 pP01 rP01
  refine (markIntsU _ _ _ _ 1 _ _ _ og fg (by omega) (by omega)).mono ?_; rintro e w19 ⟨rfl, ong, chw19⟩
  have zw19 := chw19.size
  have blw19 : Below w9.heap.size w18 w19 := chw19.below (by omega) (fun x h => h.1)
  have hww19 := below_then blw19 (by omega) hww18
  replace fr := fr.mark chw19 (by omega)
  clear og fg; have og := ong; have fg := Far.refl w9.heap.size w19
  replace bxP0 := bxP0.chg chw19 (by omega)
  have qP00 : w19.cell? ⟨w.heap.size, 0, none⟩ = some (.slice A0a n0a c0a) := bxP0.cell 0
  have pP00 : ∀ o, (w19.alloc o).cell? ⟨w.heap.size, 0, none⟩ = some (.slice A0a n0a c0a) := fun o => keepA qP00
  have rP00 : w.heap.size < w19.heap.size := bxP0.lt
  have qP01 : w19.cell? ⟨w.heap.size, 1, none⟩ = some (.slice A0b n0b c0b) := bxP0.cell 1
  have pP01 : ∀ o, (w19.alloc o).cell? ⟨w.heap.size, 1, none⟩ = some (.slice A0b n0b c0b) := fun o => keepA qP01
  have rP01 : w.heap.size < w19.heap.size := bxP0.lt
  go_wp2_with fail
  clear qP00 pP00 rP00 qP01 pP01 rP01
  refine (heldInts _ _ _ 1 _ (og.hold fg).reads (by omega) (by omega)).mono ?_; rintro e w20 ⟨rfl, hqtw20⟩
  have hbw20 := below_qt hqtw20 (Below.refl w19.heap.size w19)
  have zw20 := hbw20.size
  have hww20 := below_then hbw20 hww19.size hww19
  replace fr := fr.step hbw20
  replace fg := fg.step hbw20
  replace bxP0 := bxP0.below hbw20 bxP0.lt
  have qP00 : w20.cell? ⟨w.heap.size, 0, none⟩ = some (.slice A0a n0a c0a) := bxP0.cell 0
  have pP00 : ∀ o, (w20.alloc o).cell? ⟨w.heap.size, 0, none⟩ = some (.slice A0a n0a c0a) := fun o => keepA qP00
  have rP00 : w.heap.size < w20.heap.size := bxP0.lt
  have qP01 : w20.cell? ⟨w.heap.size, 1, none⟩ = some (.slice A0b n0b c0b) := bxP0.cell 1
  have pP01 : ∀ o, (w20.alloc o).cell? ⟨w.heap.size, 1, none⟩ = some (.slice A0b n0b c0b) := fun o => keepA qP01
  have rP01 : w.heap.size < w20.heap.size := bxP0.lt
  go_wp2_with fail
  clear qP00 pP00 rP00 qP01 pP01 rP01
  refine (toArena _ _ _ _ _ (Nat.le_refl _) (ha0.keep (keeps_below hww20)) hm0).mono ?_; rintro e w21 ⟨vs0a, vs0b, rfl, os0, hbw21⟩
  obtain ⟨As0a, cs0a, As0b, cs0b, rfl, rfl⟩ := os0.form
  have zw21 := hbw21.size
  have hww21 := below_then hbw21 hww20.size hww20
  replace fr := fr.step hbw21
  replace fg := fg.step hbw21
  replace bxP0 := bxP0.below hbw21 bxP0.lt
  have fs0 := Far.refl w20.heap.size w21
  have qP00 : w21.cell? ⟨w.heap.size, 0, none⟩ = some (.slice A0a n0a c0a) := bxP0.cell 0
  have pP00 : ∀ o, (w21.alloc o).cell? ⟨w.heap.size, 0, none⟩ = some (.slice A0a n0a c0a) := fun o => keepA qP00
  have rP00 : w.heap.size < w21.heap.size := bxP0.lt
  have qP01 : w21.cell? ⟨w.heap.size, 1, none⟩ = some (.slice A0b n0b c0b) := bxP0.cell 1
  have pP01 : ∀ o, (w21.alloc o).cell? ⟨w.heap.size, 1, none⟩ = some (.slice A0b n0b c0b) := fun o => keepA qP01
  have rP01 : w.heap.size < w21.heap.size := bxP0.lt
  go_wp2_with fail
  clear qP00 pP00 rP00 qP01 pP01 rP01
  refine (toPairS _ _ _ _ _ _ (Nat.le_refl _) (ha1.keep (keeps_below hww21)) hm1).mono ?_; rintro e w22 ⟨vs1, rfl, os1, hbw22⟩
  obtain ⟨As1, cs1, rfl⟩ := os1.form
  have zw22 := hbw22.size
  have hww22 := below_then hbw22 hww21.size hww21
  replace fr := fr.step hbw22
  replace fg := fg.step hbw22
  replace fs0 := fs0.step hbw22
  replace bxP0 := bxP0.below hbw22 bxP0.lt
  have fs1 := Far.refl w21.heap.size w22
  have qP00 : w22.cell? ⟨w.heap.size, 0, none⟩ = some (.slice A0a n0a c0a) := bxP0.cell 0
  have pP00 : ∀ o, (w22.alloc o).cell? ⟨w.heap.size, 0, none⟩ = some (.slice A0a n0a c0a) := fun o => keepA qP00
  have rP00 : w.heap.size < w22.heap.size := bxP0.lt
  have qP01 : w22.cell? ⟨w.heap.size, 1, none⟩ = some (.slice A0b n0b c0b) := bxP0.cell 1
  have pP01 : ∀ o, (w22.alloc o).cell? ⟨w.heap.size, 1, none⟩ = some (.slice A0b n0b c0b) := fun o => keepA qP01
  have rP01 : w.heap.size < w22.heap.size := bxP0.lt
  go_wp2_with fail
  clear qP00 pP00 rP00 qP01 pP01 rP01
  refine (implWellFromV _ _ _ _ _ _ _ _ _ (Nat.le_refl _) (os0.hold fs0).reads (os1.hold fs1).reads).mono ?_; rintro e w23 ⟨vh, rfl, oh, hbw23⟩
  obtain ⟨Ah, ch, rfl⟩ := oh.form
  have zw23 := hbw23.size
  have hww23 := below_then hbw23 hww22.size hww22
  replace fr := fr.step hbw23
  replace fg := fg.step hbw23
  replace fs0 := fs0.step hbw23
  replace fs1 := fs1.step hbw23
  replace bxP0 := bxP0.below hbw23 bxP0.lt
  have fh := Far.refl w22.heap.size w23
  clear os0 fs0
  clear os1 fs1
  have qP00 : w23.cell? ⟨w.heap.size, 0, none⟩ = some (.slice A0a n0a c0a) := bxP0.cell 0
  have pP00 : ∀ o, (w23.alloc o).cell? ⟨w.heap.size, 0, none⟩ = some (.slice A0a n0a c0a) := fun o => keepA qP00
  have rP00 : w.heap.size < w23.heap.size := bxP0.lt
  have qP01 : w23.cell? ⟨w.heap.size, 1, none⟩ = some (.slice A0b n0b c0b) := bxP0.cell 1
  have pP01 : ∀ o, (w23.alloc o).cell? ⟨w.heap.size, 1, none⟩ = some (.slice A0b n0b c0b) := fun o => keepA qP01
  have rP01 : w.heap.size < w23.heap.size := bxP0.lt
  go_wp2_with fail
  clear qP00 pP00 rP00 qP01 pP01 rP01
  refine (eqInts _ _ _ _ _ _ _ _ _ (oh.hold fh).reads (or.hold fr).reads).mono ?_; rintro e w24 ⟨rfl, hqtw24⟩
  have hbw24 := below_qt hqtw24 (Below.refl w23.heap.size w23)
  have zw24 := hbw24.size
  have hww24 := below_then hbw24 hww23.size hww23
  replace fr := fr.step hbw24
  replace fg := fg.step hbw24
  replace fh := fh.step hbw24
  replace bxP0 := bxP0.below hbw24 bxP0.lt
  rw [eqL_self]
  have qP00 : w24.cell? ⟨w.heap.size, 0, none⟩ = some (.slice A0a n0a c0a) := bxP0.cell 0
  have pP00 : ∀ o, (w24.alloc o).cell? ⟨w.heap.size, 0, none⟩ = some (.slice A0a n0a c0a) := fun o => keepA qP00
  have rP00 : w.heap.size < w24.heap.size := bxP0.lt
  have qP01 : w24.cell? ⟨w.heap.size, 1, none⟩ = some (.slice A0b n0b c0b) := bxP0.cell 1
  have pP01 : ∀ o, (w24.alloc o).cell? ⟨w.heap.size, 1, none⟩ = some (.slice A0b n0b c0b) := fun o => keepA qP01
  have rP01 : w.heap.size < w24.heap.size := bxP0.lt
  go_wp2_with fail
  clear qP00 pP00 rP00 qP01 pP01 rP01
  refine (heldInts _ _ _ 1 _ (og.hold fg).reads (by omega) (by omega)).mono ?_; rintro e w25 ⟨rfl, hqtw25⟩
  have hbw25 := below_qt hqtw25 (Below.refl w24.heap.size w24)
  have zw25 := hbw25.size
  have hww25 := below_then hbw25 hww24.size hww24
  replace fr := fr.step hbw25
  replace fg := fg.step hbw25
  replace fh := fh.step hbw25
  replace bxP0 := bxP0.below hbw25 bxP0.lt
  have qP00 : w25.cell? ⟨w.heap.size, 0, none⟩ = some (.slice A0a n0a c0a) := bxP0.cell 0
  have qP01 : w25.cell? ⟨w.heap.size, 1, none⟩ = some (.slice A0b n0b c0b) := bxP0.cell 1
  go_wp2
  go_ret
  exact ⟨rfl, hww25⟩

theorem own : ownKnob Try.prog.godebug = none := by kernel_rfl
theorem laidOut : laidOutB Try.prog = true := by kernel_rfl
set_option maxRecDepth 100000 in
theorem lifted (os : Os) (started : os.Started) (H : Type) (enc : TypeId × Value → H) :
    ReturnsInHanded {} Try.checked os 4 .any (Rows.fnExactWellFromSpec.pre6 enc Try.prog Try.f4 Rows.fnExactWellFromRow.domain false) (Rows.fnExactWellFromSpec.post enc Try.prog Try.f4 false true false false) := by
  refine returnsInHanded_of_change (C := Try.checked) own started (by kernel_rfl) Try.func4
    (ChangeSpec.witness6 (enc := enc) (C := Try.checked) false ⟨#[], #[.agg #[.slice none 0 0, .slice none 0 0], .slice none 0 0], []⟩ 8 (by kernel_rfl) (by kernel_rfl) (by kernel_rfl) (by kernel_rfl)) ?_
  intro W base args ds gs before hval0 hW hcnd _
  have hval : ∀ (j : Nat) t v, Try.f4.params[j]? = some t → args[j]? = some v → Value.okWide Try.prog W .any base t v := hval0
  have hW' := hW
  obtain ⟨p, q, hA0, hV, rfl, hfz, hnd⟩ := hW
  have hA : DataW.TrodAll enc Try.prog W 0 (fun _ => true) true Try.f4.params.toList args.toList ds p := hA0
  rw [Try.params4] at hA hval
  obtain ⟨v0, vs0, d0, ds0, p0, q0, hargs, rfl, rfl, h0, r0⟩ := trodAll_cons hA
  obtain ⟨v1, vs1, d1, ds1, p1, q1, rfl, rfl, rfl, h1, r1⟩ := trodAll_cons r0
  obtain ⟨rfl, rfl, rfl⟩ := trodAll_nil r1
  obtain rfl : args = #[v0, v1] := by cases args; simp_all
  obtain ⟨rfl, rfl⟩ := trodVars_none hV
  have k0 := h0
  have lt0 : ∀ x ∈ p0, x.block < W.heap.size := by obtain ⟨m, hm⟩ := k0; exact DataW.trod_lt m _ _ _ hm
  obtain ⟨c0, e0, y0, z0, m0, rfl, rfl, rfl, hy0, hz0⟩ := Go.Joins.open_agg2 Try.underlying25 (by kernel_rfl) (by kernel_rfl) (hval 0 25 v0 rfl rfl) h0
  obtain ⟨A0a, n0a, c0a, x0a, rfl, r0a⟩ := ri_of_trod Try.underlying22 Try.underlying2 (by kernel_rfl) hy0
  obtain ⟨A0b, n0b, c0b, x0b, rfl, r0b⟩ := rii_of_trod Try.underlying23 Try.underlying22 Try.underlying2 (by kernel_rfl) (by kernel_rfl) hz0
  have k1 := h1
  have lt1 : ∀ x ∈ p1, x.block < W.heap.size := by obtain ⟨m, hm⟩ := k1; exact DataW.trod_lt m _ _ _ hm
  obtain ⟨fuel1, hf1⟩ := h1
  obtain ⟨A1, n1, c1, rfl⟩ := okWide_slice Try.underlying26 (hval 1 26 v1 rfl rfl)
  obtain ⟨B1, m1, d1, ps1, e1, rr1⟩ := rps_of_trod Try.underlying26 Try.underlying44 (by kernel_rfl) ⟨⟨by kernel_rfl, by kernel_rfl⟩, ⟨rfl, rfl⟩, rfl, rfl⟩ Try.underlying22 Try.underlying22 Try.underlying2 (by kernel_rfl) hf1
  injection e1 with ea1 eb1 ec1
  subst ea1; subst eb1; subst ec1
  clear hA0 hval0
  refine (walk _ _ _ _ _ _ (x0a, x0b) _ _ _ _ W (RAv.of r0a r0b) rr1).mono fun e W' ⟨he, bel⟩ => ?_
  subst he
  exact ⟨_, rfl, _, _, _, [], _, [], hW', trodAll_mk1 (shut_bool Try.underlying4 _), (trodAll_cons_mk (Below.trod laidOut (by kernel_rfl) (of_decide_eq_true (by kernel_rfl)) k0 bel lt0) (trodAll_cons_mk (Below.trod laidOut (by kernel_rfl) (of_decide_eq_true (by kernel_rfl)) k1 bel lt1) trodAll_mk0)), rfl, bel.frame _, fun h => by cases h⟩
theorem over : Rows.fnExactWellFromRow.holds Try.pinned (OpenSpec.ofChange Rows.fnExactWellFromSpec) :=
  OpenClaim.holds_of_wide 4 Try.f4 rfl rfl rfl rfl rfl rfl rfl ⟨rfl, rfl, rfl, rfl, rfl⟩ rfl rfl rfl rfl rfl (by kernel_rfl) Try.func4 (by kernel_rfl)
    (of_decide_eq_true (by kernel_rfl)) (by unfold Func.isWrapper; first | (rw [if_pos (by decide +kernel)]; kernel_rfl) | (rw [if_neg (by decide +kernel)]; exact ⟨rfl, rfl⟩))
    (fun os started H enc _ => lifted os started H enc)
/-- the statement -/
theorem proved : Rows.FnExactWellFromSaid := over
end Go.Proofs.Ytjjaolndencplaa.fnExactWellFrom

