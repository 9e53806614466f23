/- FnExactParityPairs: for every input the law returns true, and each argument reads as it read before. No condition. -/
import Derived.Test.YtefjhkcafcchlaaPPair3
import Derived.Test.YtefjhkcafcchlaaPairs4
import Derived.Test.YtefjhkcafcchlaaOpenP
import Derived.Test.YtefjhkcafcchlaaOpenG
import Derived.Test.YtefjhkcafcchlaaOpen
import Derived.Deep.RegionHeld3
namespace Go.Proofs.Ytefjhkcafcchlaa.fnExactParityPairs
open Go.ChangeShapes Go.WideShapes Go.ChangeAt Go.RowKit

set_option maxRecDepth 100000 in
set_option maxHeartbeats 1600000 in
theorem walk (A0a A0b A0c : Option Addr) (n0a c0a n0b c0b n0c c0c : Nat) (z0 : ParD) (w : World) (ha0 : RPv w (.slice A0a n0a c0a) (.slice A0b n0b c0b) (.slice A0c n0c c0c) z0) :
    Calls Try.prog 12 #[.agg #[.slice A0a n0a c0a, .slice A0b n0b c0b, .slice A0c n0c c0c]] w fun e w' => e = .returned (.bool true) ∧ Below w.heap.size w w' := by
  by_cases hy0 : ¬ (((szPar z0) : Nat) : Int) ≤ 1048576
  · have E0 := Lib.hid (szF_no hy0)
    have hww := Below.refl w.heap.size w
    go_enter Try.func12, Try.ntmps12
    go_wp2_with fail
    have hww1 : Below w.heap.size w (w.alloc (.cells #[.slice A0a n0a c0a, .slice A0b n0b c0b, .slice A0c n0c c0c] 62)) := below_alloc (Nat.le_refl _) hww
    have zw1 : w.heap.size + 1 = (w.alloc (.cells #[.slice A0a n0a c0a, .slice A0b n0b c0b, .slice A0c n0c c0c] 62)).heap.size := by simp
    have bxP0 := Box.new w 62 #[.slice A0a n0a c0a, .slice A0b n0b c0b, .slice A0c n0c c0c]
    generalize (w.alloc (.cells #[.slice A0a n0a c0a, .slice A0b n0b c0b, .slice A0c n0c c0c] 62)) = w1 at hww1 zw1 bxP0 ⊢
    refine (szParity _ _ _ _ _ _ _ (Nat.le_refl _) (ha0.keep (keeps_below hww1)) (by omega) (by omega)).mono ?_; rintro e w2 ⟨rfl, hbw2⟩
    have zw2 := hbw2.size
    have hww2 := below_then hbw2 hww1.size hww1
    replace bxP0 := bxP0.below hbw2 bxP0.lt
    rw [E0.out]
    go_wp2
    go_ret
    exact ⟨rfl, hww2⟩
  have hz0 : (((szPar z0) : Nat) : Int) ≤ 1048576 := by omega
  have hm0 : (szPar z0) ≤ 1048576 := by omega
  have E0 := Lib.hid (szF_yes hz0)
  clear hy0
  have hR := ppR_tot z0
  have hT := ptot_sz z0
  have hne1 : ((okPP z0) != (okPP z0)) = false := by simp
  have hww := Below.refl w.heap.size w
  go_enter Try.func12, Try.ntmps12
  go_wp2_with fail
  have hww1 : Below w.heap.size w (w.alloc (.cells #[.slice A0a n0a c0a, .slice A0b n0b c0b, .slice A0c n0c c0c] 62)) := below_alloc (Nat.le_refl _) hww
  have zw1 : w.heap.size + 1 = (w.alloc (.cells #[.slice A0a n0a c0a, .slice A0b n0b c0b, .slice A0c n0c c0c] 62)).heap.size := by simp
  have bxP0 := Box.new w 62 #[.slice A0a n0a c0a, .slice A0b n0b c0b, .slice A0c n0c c0c]
  generalize (w.alloc (.cells #[.slice A0a n0a c0a, .slice A0b n0b c0b, .slice A0c n0c c0c] 62)) = w1 at hww1 zw1 bxP0 ⊢
  refine (szParity _ _ _ _ _ _ _ (Nat.le_refl _) (ha0.keep (keeps_below hww1)) (by omega) (by omega)).mono ?_; rintro e w2 ⟨rfl, hbw2⟩
  have zw2 := hbw2.size
  have hww2 := below_then hbw2 hww1.size hww1
  replace bxP0 := bxP0.below hbw2 bxP0.lt
  rw [E0.out]
  have qP00 : w2.cell? ⟨w.heap.size, 0, none⟩ = some (.slice A0a n0a c0a) := bxP0.cell 0
  have pP00 : ∀ o, (w2.alloc o).cell? ⟨w.heap.size, 0, none⟩ = some (.slice A0a n0a c0a) := fun o => keepA qP00
  have rP00 : w.heap.size < w2.heap.size := bxP0.lt
  have qP01 : w2.cell? ⟨w.heap.size, 1, none⟩ = some (.slice A0b n0b c0b) := bxP0.cell 1
  have pP01 : ∀ o, (w2.alloc o).cell? ⟨w.heap.size, 1, none⟩ = some (.slice A0b n0b c0b) := fun o => keepA qP01
  have rP01 : w.heap.size < w2.heap.size := bxP0.lt
  have qP02 : w2.cell? ⟨w.heap.size, 2, none⟩ = some (.slice A0c n0c c0c) := bxP0.cell 2
  have pP02 : ∀ o, (w2.alloc o).cell? ⟨w.heap.size, 2, none⟩ = some (.slice A0c n0c c0c) := fun o => keepA qP02
  have rP02 : w.heap.size < w2.heap.size := bxP0.lt
  go_wp2_with fail
  clear qP00 pP00 rP00 qP01 pP01 rP01 qP02 pP02 rP02
  refine (toParity _ _ _ _ _ _ (Nat.le_refl _) (ha0.keep (keeps_below hww2)) hm0).mono ?_; rintro e w3 ⟨vy0a, vy0b, vy0c, rfl, oy0, hbw3⟩
  obtain ⟨Ay0a, cy0a, Ay0b, cy0b, Ay0c, cy0c, rfl, rfl, rfl⟩ := oy0.form
  have zw3 := hbw3.size
  have hww3 := below_then hbw3 hww2.size hww2
  replace bxP0 := bxP0.below hbw3 bxP0.lt
  have fy0 := Far.refl w2.heap.size w3
  have qP00 : w3.cell? ⟨w.heap.size, 0, none⟩ = some (.slice A0a n0a c0a) := bxP0.cell 0
  have pP00 : ∀ o, (w3.alloc o).cell? ⟨w.heap.size, 0, none⟩ = some (.slice A0a n0a c0a) := fun o => keepA qP00
  have rP00 : w.heap.size < w3.heap.size := bxP0.lt
  have qP01 : w3.cell? ⟨w.heap.size, 1, none⟩ = some (.slice A0b n0b c0b) := bxP0.cell 1
  have pP01 : ∀ o, (w3.alloc o).cell? ⟨w.heap.size, 1, none⟩ = some (.slice A0b n0b c0b) := fun o => keepA qP01
  have rP01 : w.heap.size < w3.heap.size := bxP0.lt
  have qP02 : w3.cell? ⟨w.heap.size, 2, none⟩ = some (.slice A0c n0c c0c) := bxP0.cell 2
  have pP02 : ∀ o, (w3.alloc o).cell? ⟨w.heap.size, 2, none⟩ = some (.slice A0c n0c c0c) := fun o => keepA qP02
  have rP02 : w.heap.size < w3.heap.size := bxP0.lt
  go_wp2_with fail
  clear qP00 pP00 rP00 qP01 pP01 rP01 qP02 pP02 rP02
  refine (specParityPairs _ _ _ _ _ _ (Nat.le_refl _) (oy0.hold fy0).reads).mono ?_; rintro e w4 ⟨vr, rfl, or, hbw4⟩
  obtain ⟨Ar, cr, rfl⟩ := or.form
  have zw4 := hbw4.size
  have hww4 := below_then hbw4 hww3.size hww3
  replace fy0 := fy0.step hbw4
  replace bxP0 := bxP0.below hbw4 bxP0.lt
  have fr := Far.refl w3.heap.size w4
  clear oy0 fy0
  have qP00 : w4.cell? ⟨w.heap.size, 0, none⟩ = some (.slice A0a n0a c0a) := bxP0.cell 0
  have pP00 : ∀ o, (w4.alloc o).cell? ⟨w.heap.size, 0, none⟩ = some (.slice A0a n0a c0a) := fun o => keepA qP00
  have rP00 : w.heap.size < w4.heap.size := bxP0.lt
  have qP01 : w4.cell? ⟨w.heap.size, 1, none⟩ = some (.slice A0b n0b c0b) := bxP0.cell 1
  have pP01 : ∀ o, (w4.alloc o).cell? ⟨w.heap.size, 1, none⟩ = some (.slice A0b n0b c0b) := fun o => keepA qP01
  have rP01 : w.heap.size < w4.heap.size := bxP0.lt
  have qP02 : w4.cell? ⟨w.heap.size, 2, none⟩ = some (.slice A0c n0c c0c) := bxP0.cell 2
  have pP02 : ∀ o, (w4.alloc o).cell? ⟨w.heap.size, 2, none⟩ = some (.slice A0c n0c c0c) := fun o => keepA qP02
  have rP02 : w.heap.size < w4.heap.size := bxP0.lt
  go_wp2_with fail
  clear qP00 pP00 rP00 qP01 pP01 rP01 qP02 pP02 rP02
  refine (toParity _ _ _ _ _ _ (Nat.le_refl _) (ha0.keep (keeps_below hww4)) hm0).mono ?_; rintro e w5 ⟨vx0a, vx0b, vx0c, rfl, ox0, hbw5⟩
  obtain ⟨Ax0a, cx0a, Ax0b, cx0b, Ax0c, cx0c, rfl, rfl, rfl⟩ := ox0.form
  have zw5 := hbw5.size
  have hww5 := below_then hbw5 hww4.size hww4
  replace fr := fr.step hbw5
  replace bxP0 := bxP0.below hbw5 bxP0.lt
  have fx0 := Far.refl w4.heap.size w5
  have qP00 : w5.cell? ⟨w.heap.size, 0, none⟩ = some (.slice A0a n0a c0a) := bxP0.cell 0
  have pP00 : ∀ o, (w5.alloc o).cell? ⟨w.heap.size, 0, none⟩ = some (.slice A0a n0a c0a) := fun o => keepA qP00
  have rP00 : w.heap.size < w5.heap.size := bxP0.lt
  have qP01 : w5.cell? ⟨w.heap.size, 1, none⟩ = some (.slice A0b n0b c0b) := bxP0.cell 1
  have pP01 : ∀ o, (w5.alloc o).cell? ⟨w.heap.size, 1, none⟩ = some (.slice A0b n0b c0b) := fun o => keepA qP01
  have rP01 : w.heap.size < w5.heap.size := bxP0.lt
  have qP02 : w5.cell? ⟨w.heap.size, 2, none⟩ = some (.slice A0c n0c c0c) := bxP0.cell 2
  have pP02 : ∀ o, (w5.alloc o).cell? ⟨w.heap.size, 2, none⟩ = some (.slice A0c n0c c0c) := fun o => keepA qP02
  have rP02 : w.heap.size < w5.heap.size := bxP0.lt
  go_wp2_with fail
  clear qP00 pP00 rP00 qP01 pP01 rP01 qP02 pP02 rP02
  have hww6 : Below w.heap.size w (w5.alloc (.cells #[.slice Ax0a (z0).1.length cx0a, .slice Ax0b (z0).2.1.length cx0b, .slice Ax0c (z0).2.2.length cx0c] 44)) := below_alloc (Nat.le_refl _) hww5
  have zw6 : w5.heap.size + 1 = (w5.alloc (.cells #[.slice Ax0a (z0).1.length cx0a, .slice Ax0b (z0).2.1.length cx0b, .slice Ax0c (z0).2.2.length cx0c] 44)).heap.size := by simp
  replace fr := fr.step (below_alloc (o := (.cells #[.slice Ax0a (z0).1.length cx0a, .slice Ax0b (z0).2.1.length cx0b, .slice Ax0c (z0).2.2.length cx0c] 44)) (Nat.le_refl _) (Below.refl _ _))
  replace fx0 := fx0.step (below_alloc (o := (.cells #[.slice Ax0a (z0).1.length cx0a, .slice Ax0b (z0).2.1.length cx0b, .slice Ax0c (z0).2.2.length cx0c] 44)) (Nat.le_refl _) (Below.refl _ _))
  replace bxP0 := bxP0.alloc (.cells #[.slice Ax0a (z0).1.length cx0a, .slice Ax0b (z0).2.1.length cx0b, .slice Ax0c (z0).2.2.length cx0c] 44)
  have bxx0 := Box.new w5 44 #[.slice Ax0a (z0).1.length cx0a, .slice Ax0b (z0).2.1.length cx0b, .slice Ax0c (z0).2.2.length cx0c]
  generalize (w5.alloc (.cells #[.slice Ax0a (z0).1.length cx0a, .slice Ax0b (z0).2.1.length cx0b, .slice Ax0c (z0).2.2.length cx0c] 44)) = w6 at hww6 zw6 fr fx0 bxP0 bxx0 ⊢
  refine (implParityPairs _ _ _ _ _ _ (Nat.le_refl _) (ox0.hold fx0).reads).mono ?_; rintro e w7 ⟨vg, rfl, og, hbw7⟩
  obtain ⟨Ag, cg, rfl⟩ := og.form
  have zw7 := hbw7.size
  have hww7 := below_then hbw7 hww6.size hww6
  replace fr := fr.step hbw7
  replace fx0 := fx0.step hbw7
  replace bxP0 := bxP0.below hbw7 bxP0.lt
  replace bxx0 := bxx0.below hbw7 bxx0.lt
  have fg := Far.refl w6.heap.size w7
  have qP00 : w7.cell? ⟨w.heap.size, 0, none⟩ = some (.slice A0a n0a c0a) := bxP0.cell 0
  have pP00 : ∀ o, (w7.alloc o).cell? ⟨w.heap.size, 0, none⟩ = some (.slice A0a n0a c0a) := fun o => keepA qP00
  have rP00 : w.heap.size < w7.heap.size := bxP0.lt
  have qP01 : w7.cell? ⟨w.heap.size, 1, none⟩ = some (.slice A0b n0b c0b) := bxP0.cell 1
  have pP01 : ∀ o, (w7.alloc o).cell? ⟨w.heap.size, 1, none⟩ = some (.slice A0b n0b c0b) := fun o => keepA qP01
  have rP01 : w.heap.size < w7.heap.size := bxP0.lt
  have qP02 : w7.cell? ⟨w.heap.size, 2, none⟩ = some (.slice A0c n0c c0c) := bxP0.cell 2
  have pP02 : ∀ o, (w7.alloc o).cell? ⟨w.heap.size, 2, none⟩ = some (.slice A0c n0c c0c) := fun o => keepA qP02
  have rP02 : w.heap.size < w7.heap.size := bxP0.lt
  have qx00 : w7.cell? ⟨w5.heap.size, 0, none⟩ = some (.slice Ax0a (z0).1.length cx0a) := bxx0.cell 0
  have px00 : ∀ o, (w7.alloc o).cell? ⟨w5.heap.size, 0, none⟩ = some (.slice Ax0a (z0).1.length cx0a) := fun o => keepA qx00
  have rx00 : w5.heap.size < w7.heap.size := bxx0.lt
  have qx01 : w7.cell? ⟨w5.heap.size, 1, none⟩ = some (.slice Ax0b (z0).2.1.length cx0b) := bxx0.cell 1
  have px01 : ∀ o, (w7.alloc o).cell? ⟨w5.heap.size, 1, none⟩ = some (.slice Ax0b (z0).2.1.length cx0b) := fun o => keepA qx01
  have rx01 : w5.heap.size < w7.heap.size := bxx0.lt
  have qx02 : w7.cell? ⟨w5.heap.size, 2, none⟩ = some (.slice Ax0c (z0).2.2.length cx0c) := bxx0.cell 2
  have px02 : ∀ o, (w7.alloc o).cell? ⟨w5.heap.size, 2, none⟩ = some (.slice Ax0c (z0).2.2.length cx0c) := fun o => keepA qx02
  have rx02 : w5.heap.size < w7.heap.size := bxx0.lt
  go_wp2_with fail
  clear qP00 pP00 rP00 qP01 pP01 rP01 qP02 pP02 rP02 qx00 px00 rx00 qx01 px01 rx01 qx02 px02 rx02
  refine (eqPairS _ _ _ _ _ _ _ _ _ _ (Nat.le_refl _) (og.hold fg).reads (or.hold fr).reads).mono ?_; rintro e w8 ⟨rfl, hbw8⟩
  have zw8 := hbw8.size
  have hww8 := below_then hbw8 hww7.size hww7
  replace fr := fr.step hbw8
  replace fx0 := fx0.step hbw8
  replace fg := fg.step hbw8
  replace bxP0 := bxP0.below hbw8 bxP0.lt
  replace bxx0 := bxx0.below hbw8 bxx0.lt
  rw [eqPs_self]
  have qP00 : w8.cell? ⟨w.heap.size, 0, none⟩ = some (.slice A0a n0a c0a) := bxP0.cell 0
  have pP00 : ∀ o, (w8.alloc o).cell? ⟨w.heap.size, 0, none⟩ = some (.slice A0a n0a c0a) := fun o => keepA qP00
  have rP00 : w.heap.size < w8.heap.size := bxP0.lt
  have qP01 : w8.cell? ⟨w.heap.size, 1, none⟩ = some (.slice A0b n0b c0b) := bxP0.cell 1
  have pP01 : ∀ o, (w8.alloc o).cell? ⟨w.heap.size, 1, none⟩ = some (.slice A0b n0b c0b) := fun o => keepA qP01
  have rP01 : w.heap.size < w8.heap.size := bxP0.lt
  have qP02 : w8.cell? ⟨w.heap.size, 2, none⟩ = some (.slice A0c n0c c0c) := bxP0.cell 2
  have pP02 : ∀ o, (w8.alloc o).cell? ⟨w.heap.size, 2, none⟩ = some (.slice A0c n0c c0c) := fun o => keepA qP02
  have rP02 : w.heap.size < w8.heap.size := bxP0.lt
  have qx00 : w8.cell? ⟨w5.heap.size, 0, none⟩ = some (.slice Ax0a (z0).1.length cx0a) := bxx0.cell 0
  have px00 : ∀ o, (w8.alloc o).cell? ⟨w5.heap.size, 0, none⟩ = some (.slice Ax0a (z0).1.length cx0a) := fun o => keepA qx00
  have rx00 : w5.heap.size < w8.heap.size := bxx0.lt
  have qx01 : w8.cell? ⟨w5.heap.size, 1, none⟩ = some (.slice Ax0b (z0).2.1.length cx0b) := bxx0.cell 1
  have px01 : ∀ o, (w8.alloc o).cell? ⟨w5.heap.size, 1, none⟩ = some (.slice Ax0b (z0).2.1.length cx0b) := fun o => keepA qx01
  have rx01 : w5.heap.size < w8.heap.size := bxx0.lt
  have qx02 : w8.cell? ⟨w5.heap.size, 2, none⟩ = some (.slice Ax0c (z0).2.2.length cx0c) := bxx0.cell 2
  have px02 : ∀ o, (w8.alloc o).cell? ⟨w5.heap.size, 2, none⟩ = some (.slice Ax0c (z0).2.2.length cx0c) := fun o => keepA qx02
  have rx02 : w5.heap.size < w8.heap.size := bxx0.lt
  go_wp2_with fail
  clear qP00 pP00 rP00 qP01 pP01 rP01 qP02 pP02 rP02 qx00 px00 rx00 qx01 px01 rx01 qx02 px02 rx02
  have qP00 : w8.cell? ⟨w.heap.size, 0, none⟩ = some (.slice A0a n0a c0a) := bxP0.cell 0
  have qP01 : w8.cell? ⟨w.heap.size, 1, none⟩ = some (.slice A0b n0b c0b) := bxP0.cell 1
  have qP02 : w8.cell? ⟨w.heap.size, 2, none⟩ = some (.slice A0c n0c c0c) := bxP0.cell 2
  have rP0 : w.heap.size < w8.heap.size := bxP0.lt
  have qx00 : w8.cell? ⟨w5.heap.size, 0, none⟩ = some (.slice Ax0a (z0).1.length cx0a) := bxx0.cell 0
  have qx01 : w8.cell? ⟨w5.heap.size, 1, none⟩ = some (.slice Ax0b (z0).2.1.length cx0b) := bxx0.cell 1
  have qx02 : w8.cell? ⟨w5.heap.size, 2, none⟩ = some (.slice Ax0c (z0).2.2.length cx0c) := bxx0.cell 2
  have rx0 : w5.heap.size < w8.heap.size := bxx0.lt
  go_region_held3 (fun w' => w'.cell? ⟨w.heap.size, 0, none⟩ = some (.slice A0a n0a c0a) ∧ w'.cell? ⟨w.heap.size, 1, none⟩ = some (.slice A0b n0b c0b) ∧ w'.cell? ⟨w.heap.size, 2, none⟩ = some (.slice A0c n0c c0c) ∧ w'.cell? ⟨w5.heap.size, 0, none⟩ = some (.slice Ax0a (z0).1.length cx0a) ∧ w'.cell? ⟨w5.heap.size, 1, none⟩ = some (.slice Ax0b (z0).2.1.length cx0b) ∧ w'.cell? ⟨w5.heap.size, 2, none⟩ = some (.slice Ax0c (z0).2.2.length cx0c))
    (refine ⟨?_, ?_, ?_, ?_, ?_, ?_⟩ <;> repeat (first | with_reducible assumption | with_reducible refine keepD ?_ | with_reducible refine keepA ?_))
    (first
      | (go_at_call 53
         refine (toParity _ _ _ _ _ _ (Nat.le_refl _) (ha0.keep (keeps_below (Below.drew hww8))) hm0).mono ?_; rintro e w9 ⟨vt0a, vt0b, vt0c, rfl, ot0, hbw9⟩
         replace hbw9 := below_undrew hbw9
         obtain ⟨At0a, ct0a, At0b, ct0b, At0c, ct0c, rfl, rfl, rfl⟩ := ot0.form
         have zw9 := hbw9.size
         have hww9 := below_then hbw9 hww8.size hww8
         replace fr := fr.step hbw9
         replace fx0 := fx0.step hbw9
         replace fg := fg.step hbw9
         replace bxP0 := bxP0.below hbw9 bxP0.lt
         replace bxx0 := bxx0.below hbw9 bxx0.lt
         have ft0 := Far.refl w8.heap.size w9
         have qP00 : w9.cell? ⟨w.heap.size, 0, none⟩ = some (.slice A0a n0a c0a) := bxP0.cell 0
         have qP01 : w9.cell? ⟨w.heap.size, 1, none⟩ = some (.slice A0b n0b c0b) := bxP0.cell 1
         have qP02 : w9.cell? ⟨w.heap.size, 2, none⟩ = some (.slice A0c n0c c0c) := bxP0.cell 2
         have rP0 : w.heap.size < w9.heap.size := bxP0.lt
         have qx00 : w9.cell? ⟨w5.heap.size, 0, none⟩ = some (.slice Ax0a (z0).1.length cx0a) := bxx0.cell 0
         have qx01 : w9.cell? ⟨w5.heap.size, 1, none⟩ = some (.slice Ax0b (z0).2.1.length cx0b) := bxx0.cell 1
         have qx02 : w9.cell? ⟨w5.heap.size, 2, none⟩ = some (.slice Ax0c (z0).2.2.length cx0c) := bxx0.cell 2
         have rx0 : w5.heap.size < w9.heap.size := bxx0.lt)
      | (go_at_call 47
         refine (eqParity _ _ _ _ _ _ _ _ _ _ (Nat.le_refl _) (ox0.hold fx0).reads (ot0.hold ft0).reads).mono ?_; rintro e w10 ⟨rfl, hbw10⟩
         have zw10 := hbw10.size
         have hww10 := below_then hbw10 hww9.size hww9
         replace fr := fr.step hbw10
         replace fx0 := fx0.step hbw10
         replace fg := fg.step hbw10
         replace ft0 := ft0.step hbw10
         replace bxP0 := bxP0.below hbw10 bxP0.lt
         replace bxx0 := bxx0.below hbw10 bxx0.lt
         rw [eqPar_self]
         have qP00 : w10.cell? ⟨w.heap.size, 0, none⟩ = some (.slice A0a n0a c0a) := bxP0.cell 0
         have qP01 : w10.cell? ⟨w.heap.size, 1, none⟩ = some (.slice A0b n0b c0b) := bxP0.cell 1
         have qP02 : w10.cell? ⟨w.heap.size, 2, none⟩ = some (.slice A0c n0c c0c) := bxP0.cell 2
         have rP0 : w.heap.size < w10.heap.size := bxP0.lt
         have qx00 : w10.cell? ⟨w5.heap.size, 0, none⟩ = some (.slice Ax0a (z0).1.length cx0a) := bxx0.cell 0
         have qx01 : w10.cell? ⟨w5.heap.size, 1, none⟩ = some (.slice Ax0b (z0).2.1.length cx0b) := bxx0.cell 1
         have qx02 : w10.cell? ⟨w5.heap.size, 2, none⟩ = some (.slice Ax0c (z0).2.2.length cx0c) := bxx0.cell 2
         have rx0 : w5.heap.size < w10.heap.size := bxx0.lt))
  clear qP00 qP01 qP02 rP0 qx00 qx01 qx02 rx0
  clear ot0 ft0
  have qP00 : w10.cell? ⟨w.heap.size, 0, none⟩ = some (.slice A0a n0a c0a) := bxP0.cell 0
  have pP00 : ∀ o, (w10.alloc o).cell? ⟨w.heap.size, 0, none⟩ = some (.slice A0a n0a c0a) := fun o => keepA qP00
  have rP00 : w.heap.size < w10.heap.size := bxP0.lt
  have qP01 : w10.cell? ⟨w.heap.size, 1, none⟩ = some (.slice A0b n0b c0b) := bxP0.cell 1
  have pP01 : ∀ o, (w10.alloc o).cell? ⟨w.heap.size, 1, none⟩ = some (.slice A0b n0b c0b) := fun o => keepA qP01
  have rP01 : w.heap.size < w10.heap.size := bxP0.lt
  have qP02 : w10.cell? ⟨w.heap.size, 2, none⟩ = some (.slice A0c n0c c0c) := bxP0.cell 2
  have pP02 : ∀ o, (w10.alloc o).cell? ⟨w.heap.size, 2, none⟩ = some (.slice A0c n0c c0c) := fun o => keepA qP02
  have rP02 : w.heap.size < w10.heap.size := bxP0.lt
  have qx00 : w10.cell? ⟨w5.heap.size, 0, none⟩ = some (.slice Ax0a (z0).1.length cx0a) := bxx0.cell 0
  have px00 : ∀ o, (w10.alloc o).cell? ⟨w5.heap.size, 0, none⟩ = some (.slice Ax0a (z0).1.length cx0a) := fun o => keepA qx00
  have rx00 : w5.heap.size < w10.heap.size := bxx0.lt
  have qx01 : w10.cell? ⟨w5.heap.size, 1, none⟩ = some (.slice Ax0b (z0).2.1.length cx0b) := bxx0.cell 1
  have px01 : ∀ o, (w10.alloc o).cell? ⟨w5.heap.size, 1, none⟩ = some (.slice Ax0b (z0).2.1.length cx0b) := fun o => keepA qx01
  have rx01 : w5.heap.size < w10.heap.size := bxx0.lt
  have qx02 : w10.cell? ⟨w5.heap.size, 2, none⟩ = some (.slice Ax0c (z0).2.2.length cx0c) := bxx0.cell 2
  have px02 : ∀ o, (w10.alloc o).cell? ⟨w5.heap.size, 2, none⟩ = some (.slice Ax0c (z0).2.2.length cx0c) := fun o => keepA qx02
  have rx02 : w5.heap.size < w10.heap.size := bxx0.lt
  go_wp2_with fail
  clear qP00 pP00 rP00 qP01 pP01 rP01 qP02 pP02 rP02 qx00 px00 rx00 qx01 px01 rx01 qx02 px02 rx02
  refine (markParityU _ _ _ _ (1) _ _ _ (by omega) ox0 fx0 (by omega) (by omega)).mono ?_; rintro e w11 ⟨rfl, onx0, chw11⟩
  have zw11 := chw11.size
  have blw11 : Below w4.heap.size w10 w11 := chw11.below (by omega) (fun x h => h.1)
  have hww11 := below_then blw11 (by omega) hww10
  replace fr := fr.mark chw11 (by omega)
  replace fg := fg.mark chw11 (by omega)
  clear ox0 fx0; have ox0 := onx0; have fx0 := Far.refl w4.heap.size w11
  replace bxP0 := bxP0.chg chw11 (by omega)
  replace bxx0 := bxx0.chg chw11 (by omega)
  clear ox0 fx0
  clear bxx0
  have qP00 : w11.cell? ⟨w.heap.size, 0, none⟩ = some (.slice A0a n0a c0a) := bxP0.cell 0
  have pP00 : ∀ o, (w11.alloc o).cell? ⟨w.heap.size, 0, none⟩ = some (.slice A0a n0a c0a) := fun o => keepA qP00
  have rP00 : w.heap.size < w11.heap.size := bxP0.lt
  have qP01 : w11.cell? ⟨w.heap.size, 1, none⟩ = some (.slice A0b n0b c0b) := bxP0.cell 1
  have pP01 : ∀ o, (w11.alloc o).cell? ⟨w.heap.size, 1, none⟩ = some (.slice A0b n0b c0b) := fun o => keepA qP01
  have rP01 : w.heap.size < w11.heap.size := bxP0.lt
  have qP02 : w11.cell? ⟨w.heap.size, 2, none⟩ = some (.slice A0c n0c c0c) := bxP0.cell 2
  have pP02 : ∀ o, (w11.alloc o).cell? ⟨w.heap.size, 2, none⟩ = some (.slice A0c n0c c0c) := fun o => keepA qP02
  have rP02 : w.heap.size < w11.heap.size := bxP0.lt
  go_wp2_with fail
  clear qP00 pP00 rP00 qP01 pP01 rP01 qP02 pP02 rP02
  refine (eqPairS _ _ _ _ _ _ _ _ _ _ (Nat.le_refl _) (og.hold fg).reads (or.hold fr).reads).mono ?_; rintro e w12 ⟨rfl, hbw12⟩
  have zw12 := hbw12.size
  have hww12 := below_then hbw12 hww11.size hww11
  replace fr := fr.step hbw12
  replace fg := fg.step hbw12
  replace bxP0 := bxP0.below hbw12 bxP0.lt
  rw [eqPs_self]
  have qP00 : w12.cell? ⟨w.heap.size, 0, none⟩ = some (.slice A0a n0a c0a) := bxP0.cell 0
  have pP00 : ∀ o, (w12.alloc o).cell? ⟨w.heap.size, 0, none⟩ = some (.slice A0a n0a c0a) := fun o => keepA qP00
  have rP00 : w.heap.size < w12.heap.size := bxP0.lt
  have qP01 : w12.cell? ⟨w.heap.size, 1, none⟩ = some (.slice A0b n0b c0b) := bxP0.cell 1
  have pP01 : ∀ o, (w12.alloc o).cell? ⟨w.heap.size, 1, none⟩ = some (.slice A0b n0b c0b) := fun o => keepA qP01
  have rP01 : w.heap.size < w12.heap.size := bxP0.lt
  have qP02 : w12.cell? ⟨w.heap.size, 2, none⟩ = some (.slice A0c n0c c0c) := bxP0.cell 2
  have pP02 : ∀ o, (w12.alloc o).cell? ⟨w.heap.size, 2, none⟩ = some (.slice A0c n0c c0c) := fun o => keepA qP02
  have rP02 : w.heap.size < w12.heap.size := bxP0.lt
  go_wp2_with fail
  clear qP00 pP00 rP00 qP01 pP01 rP01 qP02 pP02 rP02
  refine (markPairSU _ _ _ _ 1 _ _ _ (by omega) og fg (by omega) (by omega)).mono ?_; rintro e w13 ⟨rfl, ong, chw13⟩
  have zw13 := chw13.size
  have blw13 : Below w6.heap.size w12 w13 := chw13.below (by omega) (fun x h => h.1)
  have hww13 := below_then blw13 (by omega) hww12
  replace fr := fr.mark chw13 (by omega)
  clear og fg; have og := ong; have fg := Far.refl w6.heap.size w13
  replace bxP0 := bxP0.chg chw13 (by omega)
  have qP00 : w13.cell? ⟨w.heap.size, 0, none⟩ = some (.slice A0a n0a c0a) := bxP0.cell 0
  have pP00 : ∀ o, (w13.alloc o).cell? ⟨w.heap.size, 0, none⟩ = some (.slice A0a n0a c0a) := fun o => keepA qP00
  have rP00 : w.heap.size < w13.heap.size := bxP0.lt
  have qP01 : w13.cell? ⟨w.heap.size, 1, none⟩ = some (.slice A0b n0b c0b) := bxP0.cell 1
  have pP01 : ∀ o, (w13.alloc o).cell? ⟨w.heap.size, 1, none⟩ = some (.slice A0b n0b c0b) := fun o => keepA qP01
  have rP01 : w.heap.size < w13.heap.size := bxP0.lt
  have qP02 : w13.cell? ⟨w.heap.size, 2, none⟩ = some (.slice A0c n0c c0c) := bxP0.cell 2
  have pP02 : ∀ o, (w13.alloc o).cell? ⟨w.heap.size, 2, none⟩ = some (.slice A0c n0c c0c) := fun o => keepA qP02
  have rP02 : w.heap.size < w13.heap.size := bxP0.lt
  go_wp2_with fail
  clear qP00 pP00 rP00 qP01 pP01 rP01 qP02 pP02 rP02
  refine (heldPairS _ _ _ (ppR z0) 1 _ _ (Nat.le_refl _) (og.hold fg).reads (by omega) (by omega)).mono ?_; rintro e w14 ⟨rfl, hbw14⟩
  have zw14 := hbw14.size
  have hww14 := below_then hbw14 hww13.size hww13
  replace fr := fr.step hbw14
  replace fg := fg.step hbw14
  replace bxP0 := bxP0.below hbw14 bxP0.lt
  have qP00 : w14.cell? ⟨w.heap.size, 0, none⟩ = some (.slice A0a n0a c0a) := bxP0.cell 0
  have pP00 : ∀ o, (w14.alloc o).cell? ⟨w.heap.size, 0, none⟩ = some (.slice A0a n0a c0a) := fun o => keepA qP00
  have rP00 : w.heap.size < w14.heap.size := bxP0.lt
  have qP01 : w14.cell? ⟨w.heap.size, 1, none⟩ = some (.slice A0b n0b c0b) := bxP0.cell 1
  have pP01 : ∀ o, (w14.alloc o).cell? ⟨w.heap.size, 1, none⟩ = some (.slice A0b n0b c0b) := fun o => keepA qP01
  have rP01 : w.heap.size < w14.heap.size := bxP0.lt
  have qP02 : w14.cell? ⟨w.heap.size, 2, none⟩ = some (.slice A0c n0c c0c) := bxP0.cell 2
  have pP02 : ∀ o, (w14.alloc o).cell? ⟨w.heap.size, 2, none⟩ = some (.slice A0c n0c c0c) := fun o => keepA qP02
  have rP02 : w.heap.size < w14.heap.size := bxP0.lt
  go_wp2_with fail
  clear qP00 pP00 rP00 qP01 pP01 rP01 qP02 pP02 rP02
  refine (toParity _ _ _ _ _ _ (Nat.le_refl _) (ha0.keep (keeps_below hww14)) hm0).mono ?_; rintro e w15 ⟨vs0a, vs0b, vs0c, rfl, os0, hbw15⟩
  obtain ⟨As0a, cs0a, As0b, cs0b, As0c, cs0c, rfl, rfl, rfl⟩ := os0.form
  have zw15 := hbw15.size
  have hww15 := below_then hbw15 hww14.size hww14
  replace fr := fr.step hbw15
  replace fg := fg.step hbw15
  replace bxP0 := bxP0.below hbw15 bxP0.lt
  have fs0 := Far.refl w14.heap.size w15
  have qP00 : w15.cell? ⟨w.heap.size, 0, none⟩ = some (.slice A0a n0a c0a) := bxP0.cell 0
  have pP00 : ∀ o, (w15.alloc o).cell? ⟨w.heap.size, 0, none⟩ = some (.slice A0a n0a c0a) := fun o => keepA qP00
  have rP00 : w.heap.size < w15.heap.size := bxP0.lt
  have qP01 : w15.cell? ⟨w.heap.size, 1, none⟩ = some (.slice A0b n0b c0b) := bxP0.cell 1
  have pP01 : ∀ o, (w15.alloc o).cell? ⟨w.heap.size, 1, none⟩ = some (.slice A0b n0b c0b) := fun o => keepA qP01
  have rP01 : w.heap.size < w15.heap.size := bxP0.lt
  have qP02 : w15.cell? ⟨w.heap.size, 2, none⟩ = some (.slice A0c n0c c0c) := bxP0.cell 2
  have pP02 : ∀ o, (w15.alloc o).cell? ⟨w.heap.size, 2, none⟩ = some (.slice A0c n0c c0c) := fun o => keepA qP02
  have rP02 : w.heap.size < w15.heap.size := bxP0.lt
  go_wp2_with fail
  clear qP00 pP00 rP00 qP01 pP01 rP01 qP02 pP02 rP02
  refine (implParityPairs _ _ _ _ _ _ (Nat.le_refl _) (os0.hold fs0).reads).mono ?_; rintro e w16 ⟨vh, rfl, oh, hbw16⟩
  obtain ⟨Ah, ch, rfl⟩ := oh.form
  have zw16 := hbw16.size
  have hww16 := below_then hbw16 hww15.size hww15
  replace fr := fr.step hbw16
  replace fg := fg.step hbw16
  replace fs0 := fs0.step hbw16
  replace bxP0 := bxP0.below hbw16 bxP0.lt
  have fh := Far.refl w15.heap.size w16
  clear os0 fs0
  have qP00 : w16.cell? ⟨w.heap.size, 0, none⟩ = some (.slice A0a n0a c0a) := bxP0.cell 0
  have pP00 : ∀ o, (w16.alloc o).cell? ⟨w.heap.size, 0, none⟩ = some (.slice A0a n0a c0a) := fun o => keepA qP00
  have rP00 : w.heap.size < w16.heap.size := bxP0.lt
  have qP01 : w16.cell? ⟨w.heap.size, 1, none⟩ = some (.slice A0b n0b c0b) := bxP0.cell 1
  have pP01 : ∀ o, (w16.alloc o).cell? ⟨w.heap.size, 1, none⟩ = some (.slice A0b n0b c0b) := fun o => keepA qP01
  have rP01 : w.heap.size < w16.heap.size := bxP0.lt
  have qP02 : w16.cell? ⟨w.heap.size, 2, none⟩ = some (.slice A0c n0c c0c) := bxP0.cell 2
  have pP02 : ∀ o, (w16.alloc o).cell? ⟨w.heap.size, 2, none⟩ = some (.slice A0c n0c c0c) := fun o => keepA qP02
  have rP02 : w.heap.size < w16.heap.size := bxP0.lt
  go_wp2_with fail
  clear qP00 pP00 rP00 qP01 pP01 rP01 qP02 pP02 rP02
  refine (eqPairS _ _ _ _ _ _ _ _ _ _ (Nat.le_refl _) (oh.hold fh).reads (or.hold fr).reads).mono ?_; rintro e w17 ⟨rfl, hbw17⟩
  have zw17 := hbw17.size
  have hww17 := below_then hbw17 hww16.size hww16
  replace fr := fr.step hbw17
  replace fg := fg.step hbw17
  replace fh := fh.step hbw17
  replace bxP0 := bxP0.below hbw17 bxP0.lt
  rw [eqPs_self]
  have qP00 : w17.cell? ⟨w.heap.size, 0, none⟩ = some (.slice A0a n0a c0a) := bxP0.cell 0
  have pP00 : ∀ o, (w17.alloc o).cell? ⟨w.heap.size, 0, none⟩ = some (.slice A0a n0a c0a) := fun o => keepA qP00
  have rP00 : w.heap.size < w17.heap.size := bxP0.lt
  have qP01 : w17.cell? ⟨w.heap.size, 1, none⟩ = some (.slice A0b n0b c0b) := bxP0.cell 1
  have pP01 : ∀ o, (w17.alloc o).cell? ⟨w.heap.size, 1, none⟩ = some (.slice A0b n0b c0b) := fun o => keepA qP01
  have rP01 : w.heap.size < w17.heap.size := bxP0.lt
  have qP02 : w17.cell? ⟨w.heap.size, 2, none⟩ = some (.slice A0c n0c c0c) := bxP0.cell 2
  have pP02 : ∀ o, (w17.alloc o).cell? ⟨w.heap.size, 2, none⟩ = some (.slice A0c n0c c0c) := fun o => keepA qP02
  have rP02 : w.heap.size < w17.heap.size := bxP0.lt
  go_wp2_with fail
  clear qP00 pP00 rP00 qP01 pP01 rP01 qP02 pP02 rP02
  refine (heldPairS _ _ _ (ppR z0) 1 _ _ (Nat.le_refl _) (og.hold fg).reads (by omega) (by omega)).mono ?_; rintro e w18 ⟨rfl, hbw18⟩
  have zw18 := hbw18.size
  have hww18 := below_then hbw18 hww17.size hww17
  replace fr := fr.step hbw18
  replace fg := fg.step hbw18
  replace fh := fh.step hbw18
  replace bxP0 := bxP0.below hbw18 bxP0.lt
  have qP00 : w18.cell? ⟨w.heap.size, 0, none⟩ = some (.slice A0a n0a c0a) := bxP0.cell 0
  have qP01 : w18.cell? ⟨w.heap.size, 1, none⟩ = some (.slice A0b n0b c0b) := bxP0.cell 1
  have qP02 : w18.cell? ⟨w.heap.size, 2, none⟩ = some (.slice A0c n0c c0c) := bxP0.cell 2
  go_wp2
  go_ret
  exact ⟨rfl, hww18⟩

theorem own : ownKnob Try.prog.godebug = none := by kernel_rfl
theorem laidOut : laidOutB Try.prog = true := by kernel_rfl
set_option maxRecDepth 100000 in
theorem lifted (os : Os) (started : os.Started) (H : Type) (enc : TypeId × Value → H) :
    ReturnsInHanded {} Try.checked os 12 .any (Rows.fnExactParityPairsSpec.pre6 enc Try.prog Try.f12 Rows.fnExactParityPairsRow.domain false) (Rows.fnExactParityPairsSpec.post enc Try.prog Try.f12 false true false false) := by
  refine returnsInHanded_of_change (C := Try.checked) own started (by kernel_rfl) Try.func12
    (ChangeSpec.witness6 (enc := enc) (C := Try.checked) false ⟨#[], #[.agg #[.slice none 0 0, .slice none 0 0, .slice none 0 0]], []⟩ 8 (by kernel_rfl) (by kernel_rfl) (by kernel_rfl) (by kernel_rfl)) ?_
  intro W base args ds gs before hval0 hW hcnd _
  have hval : ∀ (j : Nat) t v, Try.f12.params[j]? = some t → args[j]? = some v → Value.okWide Try.prog W .any base t v := hval0
  have hW' := hW
  obtain ⟨p, q, hA0, hV, rfl, hfz, hnd⟩ := hW
  have hA : DataW.TrodAll enc Try.prog W 0 (fun _ => true) true Try.f12.params.toList args.toList ds p := hA0
  rw [Try.params12] at hA hval
  obtain ⟨v0, vs0, d0, ds0, p0, q0, hargs, rfl, rfl, h0, r0⟩ := trodAll_cons hA
  obtain ⟨rfl, rfl, rfl⟩ := trodAll_nil r0
  obtain rfl : args = #[v0] := by cases args; simp_all
  obtain ⟨rfl, rfl⟩ := trodVars_none hV
  have k0 := h0
  have lt0 : ∀ x ∈ p0, x.block < W.heap.size := by obtain ⟨m, hm⟩ := k0; exact DataW.trod_lt m _ _ _ hm
  obtain ⟨c0, e0, g0, y0, z0, u0, m0, l0, rfl, hy0, hz0, hu0⟩ := open_game Try.underlying62 Try.underlying60 ⟨by kernel_rfl, rfl, by kernel_rfl, rfl, by kernel_rfl, rfl, by kernel_rfl, rfl, by kernel_rfl⟩ (hval 0 62 v0 rfl rfl) h0
  obtain ⟨A0a, n0a, c0a, x0a, rfl, r0a⟩ := ri_of_trod Try.underlying27 Try.underlying2 (by kernel_rfl) hy0
  obtain ⟨A0b, n0b, c0b, x0b, rfl, r0b⟩ := rii_of_trod Try.underlying28 Try.underlying27 Try.underlying2 (by kernel_rfl) (by kernel_rfl) hz0
  obtain ⟨A0c, n0c, c0c, x0c, rfl, r0c⟩ := ri_of_trod Try.underlying27 Try.underlying2 (by kernel_rfl) hu0
  clear hA0 hval0
  refine (walk _ _ _ _ _ _ _ _ _ (x0a, x0b, x0c) W (RPv.of r0a r0b r0c)).mono fun e W' ⟨he, bel⟩ => ?_
  subst he
  exact ⟨_, rfl, _, _, _, [], _, [], hW', trodAll_mk1 (shut_bool Try.underlying4 _), (trodAll_cons_mk (Below.trod laidOut (by kernel_rfl) (of_decide_eq_true (by kernel_rfl)) k0 bel lt0) trodAll_mk0), rfl, bel.frame _, fun h => by cases h⟩
theorem over : Rows.fnExactParityPairsRow.holds Try.pinned (OpenSpec.ofChange Rows.fnExactParityPairsSpec) :=
  OpenClaim.holds_of_wide 12 Try.f12 rfl rfl rfl rfl rfl rfl rfl ⟨rfl, rfl, rfl, rfl, rfl⟩ rfl rfl rfl rfl rfl (by kernel_rfl) Try.func12 (by kernel_rfl)
    (of_decide_eq_true (by kernel_rfl)) (by unfold Func.isWrapper; first | (rw [if_pos (by decide +kernel)]; kernel_rfl) | (rw [if_neg (by decide +kernel)]; exact ⟨rfl, rfl⟩))
    (fun os started H enc _ => lifted os started H enc)
/-- the statement -/
theorem proved : Rows.FnExactParityPairsSaid := over
end Go.Proofs.Ytefjhkcafcchlaa.fnExactParityPairs

