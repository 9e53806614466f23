/- FnExactRestOf: for every input the law returns true, and each argument reads as it read before. No condition. -/
import Derived.Test.YtlmhhnplacejkaaRestI
import Derived.Test.YtlmhhnplacejkaaParL
import Derived.Test.YtlmhhnplacejkaaOpenG
import Derived.Test.YtlmhhnplacejkaaOpen
import Derived.Deep.RegionHeld3
namespace Go.Proofs.Ytlmhhnplacejkaa.fnExactRestOf
open Go.ChangeShapes Go.WideShapes Go.ChangeAt Go.RowKit

set_option maxRecDepth 100000 in
set_option maxHeartbeats 1600000 in
theorem walk (A0a A0b A0c : Option Addr) (n0a c0a n0b c0b n0c c0c : Nat) (z0 : ParD) (who : Int) (w : World) (ha0 : RPv w (.slice A0a n0a c0a) (.slice A0b n0b c0b) (.slice A0c n0c c0c) z0) :
    Calls Try.prog 4 #[.agg #[.slice A0a n0a c0a, .slice A0b n0b c0b, .slice A0c n0c c0c], .int .i64 who] w fun e w' => e = .returned (.bool true) ∧ Below w.heap.size w w' := by
  by_cases hy0 : ¬ (((szPar z0) : Nat) : Int) ≤ 1048576
  · have E0 := Lib.hid (szF_no hy0)
    have hww := Below.refl w.heap.size w
    go_enter Try.func4, Try.ntmps4
    go_wp2_with fail
    have hww1 : Below w.heap.size w (w.alloc (.cells #[.slice A0a n0a c0a, .slice A0b n0b c0b, .slice A0c n0c c0c] 50)) := below_alloc (Nat.le_refl _) hww
    have zw1 : w.heap.size + 1 = (w.alloc (.cells #[.slice A0a n0a c0a, .slice A0b n0b c0b, .slice A0c n0c c0c] 50)).heap.size := by simp
    have bxP0 := Box.new w 50 #[.slice A0a n0a c0a, .slice A0b n0b c0b, .slice A0c n0c c0c]
    generalize (w.alloc (.cells #[.slice A0a n0a c0a, .slice A0b n0b c0b, .slice A0c n0c c0c] 50)) = w1 at hww1 zw1 bxP0 ⊢
    refine (szParity _ _ _ _ _ _ _ (Nat.le_refl _) (ha0.keep (keeps_below hww1)) (by omega) (by omega)).mono ?_; rintro e w2 ⟨rfl, hbw2⟩
    have zw2 := hbw2.size
    have hww2 := below_then hbw2 hww1.size hww1
    replace bxP0 := bxP0.below hbw2 bxP0.lt
    rw [E0.out]
    go_wp2
    go_ret
    exact ⟨rfl, hww2⟩
  have hz0 : (((szPar z0) : Nat) : Int) ≤ 1048576 := by omega
  have hm0 : (szPar z0) ≤ 1048576 := by omega
  have E0 := Lib.hid (szF_yes hz0)
  clear hy0
  obtain ⟨hR, hR2⟩ := rest_tot z0 who
  have hT := ptot_sz z0
  have hne2 : ((okRest z0 who) != (okRest z0 who)) = false := by simp
  have hww := Below.refl w.heap.size w
  go_enter Try.func4, Try.ntmps4
  go_wp2_with fail
  have hww1 : Below w.heap.size w (w.alloc (.cells #[.slice A0a n0a c0a, .slice A0b n0b c0b, .slice A0c n0c c0c] 50)) := below_alloc (Nat.le_refl _) hww
  have zw1 : w.heap.size + 1 = (w.alloc (.cells #[.slice A0a n0a c0a, .slice A0b n0b c0b, .slice A0c n0c c0c] 50)).heap.size := by simp
  have bxP0 := Box.new w 50 #[.slice A0a n0a c0a, .slice A0b n0b c0b, .slice A0c n0c c0c]
  generalize (w.alloc (.cells #[.slice A0a n0a c0a, .slice A0b n0b c0b, .slice A0c n0c c0c] 50)) = w1 at hww1 zw1 bxP0 ⊢
  refine (szParity _ _ _ _ _ _ _ (Nat.le_refl _) (ha0.keep (keeps_below hww1)) (by omega) (by omega)).mono ?_; rintro e w2 ⟨rfl, hbw2⟩
  have zw2 := hbw2.size
  have hww2 := below_then hbw2 hww1.size hww1
  replace bxP0 := bxP0.below hbw2 bxP0.lt
  rw [E0.out]
  have qP00 : w2.cell? ⟨w.heap.size, 0, none⟩ = some (.slice A0a n0a c0a) := bxP0.cell 0
  have pP00 : ∀ o, (w2.alloc o).cell? ⟨w.heap.size, 0, none⟩ = some (.slice A0a n0a c0a) := fun o => keepA qP00
  have rP00 : w.heap.size < w2.heap.size := bxP0.lt
  have qP01 : w2.cell? ⟨w.heap.size, 1, none⟩ = some (.slice A0b n0b c0b) := bxP0.cell 1
  have pP01 : ∀ o, (w2.alloc o).cell? ⟨w.heap.size, 1, none⟩ = some (.slice A0b n0b c0b) := fun o => keepA qP01
  have rP01 : w.heap.size < w2.heap.size := bxP0.lt
  have qP02 : w2.cell? ⟨w.heap.size, 2, none⟩ = some (.slice A0c n0c c0c) := bxP0.cell 2
  have pP02 : ∀ o, (w2.alloc o).cell? ⟨w.heap.size, 2, none⟩ = some (.slice A0c n0c c0c) := fun o => keepA qP02
  have rP02 : w.heap.size < w2.heap.size := bxP0.lt
  go_wp2_with fail
  clear qP00 pP00 rP00 qP01 pP01 rP01 qP02 pP02 rP02
  refine (toParity _ _ _ _ _ _ (Nat.le_refl _) (ha0.keep (keeps_below hww2)) hm0).mono ?_; rintro e w3 ⟨vy0a, vy0b, vy0c, rfl, oy0, hbw3⟩
  obtain ⟨Ay0a, cy0a, Ay0b, cy0b, Ay0c, cy0c, rfl, rfl, rfl⟩ := oy0.form
  have zw3 := hbw3.size
  have hww3 := below_then hbw3 hww2.size hww2
  replace bxP0 := bxP0.below hbw3 bxP0.lt
  have fy0 := Far.refl w2.heap.size w3
  have qP00 : w3.cell? ⟨w.heap.size, 0, none⟩ = some (.slice A0a n0a c0a) := bxP0.cell 0
  have pP00 : ∀ o, (w3.alloc o).cell? ⟨w.heap.size, 0, none⟩ = some (.slice A0a n0a c0a) := fun o => keepA qP00
  have rP00 : w.heap.size < w3.heap.size := bxP0.lt
  have qP01 : w3.cell? ⟨w.heap.size, 1, none⟩ = some (.slice A0b n0b c0b) := bxP0.cell 1
  have pP01 : ∀ o, (w3.alloc o).cell? ⟨w.heap.size, 1, none⟩ = some (.slice A0b n0b c0b) := fun o => keepA qP01
  have rP01 : w.heap.size < w3.heap.size := bxP0.lt
  have qP02 : w3.cell? ⟨w.heap.size, 2, none⟩ = some (.slice A0c n0c c0c) := bxP0.cell 2
  have pP02 : ∀ o, (w3.alloc o).cell? ⟨w.heap.size, 2, none⟩ = some (.slice A0c n0c c0c) := fun o => keepA qP02
  have rP02 : w.heap.size < w3.heap.size := bxP0.lt
  go_wp2_with fail
  clear qP00 pP00 rP00 qP01 pP01 rP01 qP02 pP02 rP02
  refine (specRestOf _ _ _ _ _ _ _ (Nat.le_refl _) (oy0.hold fy0).reads).mono ?_; rintro e w4 ⟨mr, lr, vr1, vr0a, vr0b, vr0c, rfl, or0, or1, fr1, hlr, hbw4⟩
  obtain ⟨Ar0a, cr0a, Ar0b, cr0b, Ar0c, cr0c, rfl, rfl, rfl⟩ := or0.form
  obtain ⟨Ar1, cr1, rfl⟩ := or1.form
  obtain ⟨hlr, hmr⟩ := hlr; have hsr := fr1.size
  have zw4 := hbw4.size
  have hww4 := below_then hbw4 hww3.size hww3
  replace fy0 := fy0.step hbw4
  replace bxP0 := bxP0.below hbw4 bxP0.lt
  have fr0 := Far.refl mr.heap.size w4
  clear oy0 fy0
  have qP00 : w4.cell? ⟨w.heap.size, 0, none⟩ = some (.slice A0a n0a c0a) := bxP0.cell 0
  have pP00 : ∀ o, (w4.alloc o).cell? ⟨w.heap.size, 0, none⟩ = some (.slice A0a n0a c0a) := fun o => keepA qP00
  have rP00 : w.heap.size < w4.heap.size := bxP0.lt
  have qP01 : w4.cell? ⟨w.heap.size, 1, none⟩ = some (.slice A0b n0b c0b) := bxP0.cell 1
  have pP01 : ∀ o, (w4.alloc o).cell? ⟨w.heap.size, 1, none⟩ = some (.slice A0b n0b c0b) := fun o => keepA qP01
  have rP01 : w.heap.size < w4.heap.size := bxP0.lt
  have qP02 : w4.cell? ⟨w.heap.size, 2, none⟩ = some (.slice A0c n0c c0c) := bxP0.cell 2
  have pP02 : ∀ o, (w4.alloc o).cell? ⟨w.heap.size, 2, none⟩ = some (.slice A0c n0c c0c) := fun o => keepA qP02
  have rP02 : w.heap.size < w4.heap.size := bxP0.lt
  go_wp2_with fail
  clear qP00 pP00 rP00 qP01 pP01 rP01 qP02 pP02 rP02
  have hww5 : Below w.heap.size w (w4.alloc (.cells #[.slice Ar0a (restG z0 who).1.length cr0a, .slice Ar0b (restG z0 who).2.1.length cr0b, .slice Ar0c (restG z0 who).2.2.length cr0c] 33)) := below_alloc (Nat.le_refl _) hww4
  have zw5 : w4.heap.size + 1 = (w4.alloc (.cells #[.slice Ar0a (restG z0 who).1.length cr0a, .slice Ar0b (restG z0 who).2.1.length cr0b, .slice Ar0c (restG z0 who).2.2.length cr0c] 33)).heap.size := by simp
  replace fr1 := fr1.step (below_alloc (o := (.cells #[.slice Ar0a (restG z0 who).1.length cr0a, .slice Ar0b (restG z0 who).2.1.length cr0b, .slice Ar0c (restG z0 who).2.2.length cr0c] 33)) (Nat.le_refl _) (Below.refl _ _))
  replace fr0 := fr0.step (below_alloc (o := (.cells #[.slice Ar0a (restG z0 who).1.length cr0a, .slice Ar0b (restG z0 who).2.1.length cr0b, .slice Ar0c (restG z0 who).2.2.length cr0c] 33)) (Nat.le_refl _) (Below.refl _ _))
  replace bxP0 := bxP0.alloc (.cells #[.slice Ar0a (restG z0 who).1.length cr0a, .slice Ar0b (restG z0 who).2.1.length cr0b, .slice Ar0c (restG z0 who).2.2.length cr0c] 33)
  have bxr0 := Box.new w4 33 #[.slice Ar0a (restG z0 who).1.length cr0a, .slice Ar0b (restG z0 who).2.1.length cr0b, .slice Ar0c (restG z0 who).2.2.length cr0c]
  generalize (w4.alloc (.cells #[.slice Ar0a (restG z0 who).1.length cr0a, .slice Ar0b (restG z0 who).2.1.length cr0b, .slice Ar0c (restG z0 who).2.2.length cr0c] 33)) = w5 at hww5 zw5 fr1 fr0 bxP0 bxr0 ⊢
  refine (toParity _ _ _ _ _ _ (Nat.le_refl _) (ha0.keep (keeps_below hww5)) hm0).mono ?_; rintro e w6 ⟨vx0a, vx0b, vx0c, rfl, ox0, hbw6⟩
  obtain ⟨Ax0a, cx0a, Ax0b, cx0b, Ax0c, cx0c, rfl, rfl, rfl⟩ := ox0.form
  have zw6 := hbw6.size
  have hww6 := below_then hbw6 hww5.size hww5
  replace fr1 := fr1.step hbw6
  replace fr0 := fr0.step hbw6
  replace bxP0 := bxP0.below hbw6 bxP0.lt
  replace bxr0 := bxr0.below hbw6 bxr0.lt
  have fx0 := Far.refl w5.heap.size w6
  have qP00 : w6.cell? ⟨w.heap.size, 0, none⟩ = some (.slice A0a n0a c0a) := bxP0.cell 0
  have pP00 : ∀ o, (w6.alloc o).cell? ⟨w.heap.size, 0, none⟩ = some (.slice A0a n0a c0a) := fun o => keepA qP00
  have rP00 : w.heap.size < w6.heap.size := bxP0.lt
  have qP01 : w6.cell? ⟨w.heap.size, 1, none⟩ = some (.slice A0b n0b c0b) := bxP0.cell 1
  have pP01 : ∀ o, (w6.alloc o).cell? ⟨w.heap.size, 1, none⟩ = some (.slice A0b n0b c0b) := fun o => keepA qP01
  have rP01 : w.heap.size < w6.heap.size := bxP0.lt
  have qP02 : w6.cell? ⟨w.heap.size, 2, none⟩ = some (.slice A0c n0c c0c) := bxP0.cell 2
  have pP02 : ∀ o, (w6.alloc o).cell? ⟨w.heap.size, 2, none⟩ = some (.slice A0c n0c c0c) := fun o => keepA qP02
  have rP02 : w.heap.size < w6.heap.size := bxP0.lt
  have qr00 : w6.cell? ⟨w4.heap.size, 0, none⟩ = some (.slice Ar0a (restG z0 who).1.length cr0a) := bxr0.cell 0
  have pr00 : ∀ o, (w6.alloc o).cell? ⟨w4.heap.size, 0, none⟩ = some (.slice Ar0a (restG z0 who).1.length cr0a) := fun o => keepA qr00
  have rr00 : w4.heap.size < w6.heap.size := bxr0.lt
  have qr01 : w6.cell? ⟨w4.heap.size, 1, none⟩ = some (.slice Ar0b (restG z0 who).2.1.length cr0b) := bxr0.cell 1
  have pr01 : ∀ o, (w6.alloc o).cell? ⟨w4.heap.size, 1, none⟩ = some (.slice Ar0b (restG z0 who).2.1.length cr0b) := fun o => keepA qr01
  have rr01 : w4.heap.size < w6.heap.size := bxr0.lt
  have qr02 : w6.cell? ⟨w4.heap.size, 2, none⟩ = some (.slice Ar0c (restG z0 who).2.2.length cr0c) := bxr0.cell 2
  have pr02 : ∀ o, (w6.alloc o).cell? ⟨w4.heap.size, 2, none⟩ = some (.slice Ar0c (restG z0 who).2.2.length cr0c) := fun o => keepA qr02
  have rr02 : w4.heap.size < w6.heap.size := bxr0.lt
  go_wp2_with fail
  clear qP00 pP00 rP00 qP01 pP01 rP01 qP02 pP02 rP02 qr00 pr00 rr00 qr01 pr01 rr01 qr02 pr02 rr02
  have hww7 : Below w.heap.size w (w6.alloc (.cells #[.slice Ax0a (z0).1.length cx0a, .slice Ax0b (z0).2.1.length cx0b, .slice Ax0c (z0).2.2.length cx0c] 33)) := below_alloc (Nat.le_refl _) hww6
  have zw7 : w6.heap.size + 1 = (w6.alloc (.cells #[.slice Ax0a (z0).1.length cx0a, .slice Ax0b (z0).2.1.length cx0b, .slice Ax0c (z0).2.2.length cx0c] 33)).heap.size := by simp
  replace fr1 := fr1.step (below_alloc (o := (.cells #[.slice Ax0a (z0).1.length cx0a, .slice Ax0b (z0).2.1.length cx0b, .slice Ax0c (z0).2.2.length cx0c] 33)) (Nat.le_refl _) (Below.refl _ _))
  replace fr0 := fr0.step (below_alloc (o := (.cells #[.slice Ax0a (z0).1.length cx0a, .slice Ax0b (z0).2.1.length cx0b, .slice Ax0c (z0).2.2.length cx0c] 33)) (Nat.le_refl _) (Below.refl _ _))
  replace fx0 := fx0.step (below_alloc (o := (.cells #[.slice Ax0a (z0).1.length cx0a, .slice Ax0b (z0).2.1.length cx0b, .slice Ax0c (z0).2.2.length cx0c] 33)) (Nat.le_refl _) (Below.refl _ _))
  replace bxP0 := bxP0.alloc (.cells #[.slice Ax0a (z0).1.length cx0a, .slice Ax0b (z0).2.1.length cx0b, .slice Ax0c (z0).2.2.length cx0c] 33)
  replace bxr0 := bxr0.alloc (.cells #[.slice Ax0a (z0).1.length cx0a, .slice Ax0b (z0).2.1.length cx0b, .slice Ax0c (z0).2.2.length cx0c] 33)
  have bxx0 := Box.new w6 33 #[.slice Ax0a (z0).1.length cx0a, .slice Ax0b (z0).2.1.length cx0b, .slice Ax0c (z0).2.2.length cx0c]
  generalize (w6.alloc (.cells #[.slice Ax0a (z0).1.length cx0a, .slice Ax0b (z0).2.1.length cx0b, .slice Ax0c (z0).2.2.length cx0c] 33)) = w7 at hww7 zw7 fr1 fr0 fx0 bxP0 bxr0 bxx0 ⊢
  refine (implRestOf _ _ _ _ _ _ _ (Nat.le_refl _) (ox0.hold fx0).reads).mono ?_; rintro e w8 ⟨mg, lg, vg1, vg0a, vg0b, vg0c, rfl, og0, og1, fg1, hlg, hbw8⟩
  obtain ⟨Ag0a, cg0a, Ag0b, cg0b, Ag0c, cg0c, rfl, rfl, rfl⟩ := og0.form
  obtain ⟨Ag1, cg1, rfl⟩ := og1.form
  obtain ⟨hlg, hmg⟩ := hlg; have hsg := fg1.size
  have zw8 := hbw8.size
  have hww8 := below_then hbw8 hww7.size hww7
  replace fr1 := fr1.step hbw8
  replace fr0 := fr0.step hbw8
  replace fx0 := fx0.step hbw8
  replace bxP0 := bxP0.below hbw8 bxP0.lt
  replace bxr0 := bxr0.below hbw8 bxr0.lt
  replace bxx0 := bxx0.below hbw8 bxx0.lt
  have fg0 := Far.refl mg.heap.size w8
  have qP00 : w8.cell? ⟨w.heap.size, 0, none⟩ = some (.slice A0a n0a c0a) := bxP0.cell 0
  have pP00 : ∀ o, (w8.alloc o).cell? ⟨w.heap.size, 0, none⟩ = some (.slice A0a n0a c0a) := fun o => keepA qP00
  have rP00 : w.heap.size < w8.heap.size := bxP0.lt
  have qP01 : w8.cell? ⟨w.heap.size, 1, none⟩ = some (.slice A0b n0b c0b) := bxP0.cell 1
  have pP01 : ∀ o, (w8.alloc o).cell? ⟨w.heap.size, 1, none⟩ = some (.slice A0b n0b c0b) := fun o => keepA qP01
  have rP01 : w.heap.size < w8.heap.size := bxP0.lt
  have qP02 : w8.cell? ⟨w.heap.size, 2, none⟩ = some (.slice A0c n0c c0c) := bxP0.cell 2
  have pP02 : ∀ o, (w8.alloc o).cell? ⟨w.heap.size, 2, none⟩ = some (.slice A0c n0c c0c) := fun o => keepA qP02
  have rP02 : w.heap.size < w8.heap.size := bxP0.lt
  have qr00 : w8.cell? ⟨w4.heap.size, 0, none⟩ = some (.slice Ar0a (restG z0 who).1.length cr0a) := bxr0.cell 0
  have pr00 : ∀ o, (w8.alloc o).cell? ⟨w4.heap.size, 0, none⟩ = some (.slice Ar0a (restG z0 who).1.length cr0a) := fun o => keepA qr00
  have rr00 : w4.heap.size < w8.heap.size := bxr0.lt
  have qr01 : w8.cell? ⟨w4.heap.size, 1, none⟩ = some (.slice Ar0b (restG z0 who).2.1.length cr0b) := bxr0.cell 1
  have pr01 : ∀ o, (w8.alloc o).cell? ⟨w4.heap.size, 1, none⟩ = some (.slice Ar0b (restG z0 who).2.1.length cr0b) := fun o => keepA qr01
  have rr01 : w4.heap.size < w8.heap.size := bxr0.lt
  have qr02 : w8.cell? ⟨w4.heap.size, 2, none⟩ = some (.slice Ar0c (restG z0 who).2.2.length cr0c) := bxr0.cell 2
  have pr02 : ∀ o, (w8.alloc o).cell? ⟨w4.heap.size, 2, none⟩ = some (.slice Ar0c (restG z0 who).2.2.length cr0c) := fun o => keepA qr02
  have rr02 : w4.heap.size < w8.heap.size := bxr0.lt
  have qx00 : w8.cell? ⟨w6.heap.size, 0, none⟩ = some (.slice Ax0a (z0).1.length cx0a) := bxx0.cell 0
  have px00 : ∀ o, (w8.alloc o).cell? ⟨w6.heap.size, 0, none⟩ = some (.slice Ax0a (z0).1.length cx0a) := fun o => keepA qx00
  have rx00 : w6.heap.size < w8.heap.size := bxx0.lt
  have qx01 : w8.cell? ⟨w6.heap.size, 1, none⟩ = some (.slice Ax0b (z0).2.1.length cx0b) := bxx0.cell 1
  have px01 : ∀ o, (w8.alloc o).cell? ⟨w6.heap.size, 1, none⟩ = some (.slice Ax0b (z0).2.1.length cx0b) := fun o => keepA qx01
  have rx01 : w6.heap.size < w8.heap.size := bxx0.lt
  have qx02 : w8.cell? ⟨w6.heap.size, 2, none⟩ = some (.slice Ax0c (z0).2.2.length cx0c) := bxx0.cell 2
  have px02 : ∀ o, (w8.alloc o).cell? ⟨w6.heap.size, 2, none⟩ = some (.slice Ax0c (z0).2.2.length cx0c) := fun o => keepA qx02
  have rx02 : w6.heap.size < w8.heap.size := bxx0.lt
  go_wp2_with fail
  clear qP00 pP00 rP00 qP01 pP01 rP01 qP02 pP02 rP02 qr00 pr00 rr00 qr01 pr01 rr01 qr02 pr02 rr02 qx00 px00 rx00 qx01 px01 rx01 qx02 px02 rx02
  have hww9 : Below w.heap.size w (w8.alloc (.cells #[.slice Ag0a (restG z0 who).1.length cg0a, .slice Ag0b (restG z0 who).2.1.length cg0b, .slice Ag0c (restG z0 who).2.2.length cg0c] 33)) := below_alloc (Nat.le_refl _) hww8
  have zw9 : w8.heap.size + 1 = (w8.alloc (.cells #[.slice Ag0a (restG z0 who).1.length cg0a, .slice Ag0b (restG z0 who).2.1.length cg0b, .slice Ag0c (restG z0 who).2.2.length cg0c] 33)).heap.size := by simp
  replace fr1 := fr1.step (below_alloc (o := (.cells #[.slice Ag0a (restG z0 who).1.length cg0a, .slice Ag0b (restG z0 who).2.1.length cg0b, .slice Ag0c (restG z0 who).2.2.length cg0c] 33)) (Nat.le_refl _) (Below.refl _ _))
  replace fr0 := fr0.step (below_alloc (o := (.cells #[.slice Ag0a (restG z0 who).1.length cg0a, .slice Ag0b (restG z0 who).2.1.length cg0b, .slice Ag0c (restG z0 who).2.2.length cg0c] 33)) (Nat.le_refl _) (Below.refl _ _))
  replace fx0 := fx0.step (below_alloc (o := (.cells #[.slice Ag0a (restG z0 who).1.length cg0a, .slice Ag0b (restG z0 who).2.1.length cg0b, .slice Ag0c (restG z0 who).2.2.length cg0c] 33)) (Nat.le_refl _) (Below.refl _ _))
  replace fg1 := fg1.step (below_alloc (o := (.cells #[.slice Ag0a (restG z0 who).1.length cg0a, .slice Ag0b (restG z0 who).2.1.length cg0b, .slice Ag0c (restG z0 who).2.2.length cg0c] 33)) (Nat.le_refl _) (Below.refl _ _))
  replace fg0 := fg0.step (below_alloc (o := (.cells #[.slice Ag0a (restG z0 who).1.length cg0a, .slice Ag0b (restG z0 who).2.1.length cg0b, .slice Ag0c (restG z0 who).2.2.length cg0c] 33)) (Nat.le_refl _) (Below.refl _ _))
  replace bxP0 := bxP0.alloc (.cells #[.slice Ag0a (restG z0 who).1.length cg0a, .slice Ag0b (restG z0 who).2.1.length cg0b, .slice Ag0c (restG z0 who).2.2.length cg0c] 33)
  replace bxr0 := bxr0.alloc (.cells #[.slice Ag0a (restG z0 who).1.length cg0a, .slice Ag0b (restG z0 who).2.1.length cg0b, .slice Ag0c (restG z0 who).2.2.length cg0c] 33)
  replace bxx0 := bxx0.alloc (.cells #[.slice Ag0a (restG z0 who).1.length cg0a, .slice Ag0b (restG z0 who).2.1.length cg0b, .slice Ag0c (restG z0 who).2.2.length cg0c] 33)
  have bxg0 := Box.new w8 33 #[.slice Ag0a (restG z0 who).1.length cg0a, .slice Ag0b (restG z0 who).2.1.length cg0b, .slice Ag0c (restG z0 who).2.2.length cg0c]
  generalize (w8.alloc (.cells #[.slice Ag0a (restG z0 who).1.length cg0a, .slice Ag0b (restG z0 who).2.1.length cg0b, .slice Ag0c (restG z0 who).2.2.length cg0c] 33)) = w9 at hww9 zw9 fr1 fr0 fx0 fg1 fg0 bxP0 bxr0 bxx0 bxg0 ⊢
  refine (eqParity _ _ _ _ _ _ _ _ _ _ (Nat.le_refl _) (og0.hold fg0).reads (or0.hold fr0).reads).mono ?_; rintro e w10 ⟨rfl, hbw10⟩
  have zw10 := hbw10.size
  have hww10 := below_then hbw10 hww9.size hww9
  replace fr1 := fr1.step hbw10
  replace fr0 := fr0.step hbw10
  replace fx0 := fx0.step hbw10
  replace fg1 := fg1.step hbw10
  replace fg0 := fg0.step hbw10
  replace bxP0 := bxP0.below hbw10 bxP0.lt
  replace bxr0 := bxr0.below hbw10 bxr0.lt
  replace bxx0 := bxx0.below hbw10 bxx0.lt
  replace bxg0 := bxg0.below hbw10 bxg0.lt
  rw [eqPar_self]
  have qP00 : w10.cell? ⟨w.heap.size, 0, none⟩ = some (.slice A0a n0a c0a) := bxP0.cell 0
  have pP00 : ∀ o, (w10.alloc o).cell? ⟨w.heap.size, 0, none⟩ = some (.slice A0a n0a c0a) := fun o => keepA qP00
  have rP00 : w.heap.size < w10.heap.size := bxP0.lt
  have qP01 : w10.cell? ⟨w.heap.size, 1, none⟩ = some (.slice A0b n0b c0b) := bxP0.cell 1
  have pP01 : ∀ o, (w10.alloc o).cell? ⟨w.heap.size, 1, none⟩ = some (.slice A0b n0b c0b) := fun o => keepA qP01
  have rP01 : w.heap.size < w10.heap.size := bxP0.lt
  have qP02 : w10.cell? ⟨w.heap.size, 2, none⟩ = some (.slice A0c n0c c0c) := bxP0.cell 2
  have pP02 : ∀ o, (w10.alloc o).cell? ⟨w.heap.size, 2, none⟩ = some (.slice A0c n0c c0c) := fun o => keepA qP02
  have rP02 : w.heap.size < w10.heap.size := bxP0.lt
  have qr00 : w10.cell? ⟨w4.heap.size, 0, none⟩ = some (.slice Ar0a (restG z0 who).1.length cr0a) := bxr0.cell 0
  have pr00 : ∀ o, (w10.alloc o).cell? ⟨w4.heap.size, 0, none⟩ = some (.slice Ar0a (restG z0 who).1.length cr0a) := fun o => keepA qr00
  have rr00 : w4.heap.size < w10.heap.size := bxr0.lt
  have qr01 : w10.cell? ⟨w4.heap.size, 1, none⟩ = some (.slice Ar0b (restG z0 who).2.1.length cr0b) := bxr0.cell 1
  have pr01 : ∀ o, (w10.alloc o).cell? ⟨w4.heap.size, 1, none⟩ = some (.slice Ar0b (restG z0 who).2.1.length cr0b) := fun o => keepA qr01
  have rr01 : w4.heap.size < w10.heap.size := bxr0.lt
  have qr02 : w10.cell? ⟨w4.heap.size, 2, none⟩ = some (.slice Ar0c (restG z0 who).2.2.length cr0c) := bxr0.cell 2
  have pr02 : ∀ o, (w10.alloc o).cell? ⟨w4.heap.size, 2, none⟩ = some (.slice Ar0c (restG z0 who).2.2.length cr0c) := fun o => keepA qr02
  have rr02 : w4.heap.size < w10.heap.size := bxr0.lt
  have qx00 : w10.cell? ⟨w6.heap.size, 0, none⟩ = some (.slice Ax0a (z0).1.length cx0a) := bxx0.cell 0
  have px00 : ∀ o, (w10.alloc o).cell? ⟨w6.heap.size, 0, none⟩ = some (.slice Ax0a (z0).1.length cx0a) := fun o => keepA qx00
  have rx00 : w6.heap.size < w10.heap.size := bxx0.lt
  have qx01 : w10.cell? ⟨w6.heap.size, 1, none⟩ = some (.slice Ax0b (z0).2.1.length cx0b) := bxx0.cell 1
  have px01 : ∀ o, (w10.alloc o).cell? ⟨w6.heap.size, 1, none⟩ = some (.slice Ax0b (z0).2.1.length cx0b) := fun o => keepA qx01
  have rx01 : w6.heap.size < w10.heap.size := bxx0.lt
  have qx02 : w10.cell? ⟨w6.heap.size, 2, none⟩ = some (.slice Ax0c (z0).2.2.length cx0c) := bxx0.cell 2
  have px02 : ∀ o, (w10.alloc o).cell? ⟨w6.heap.size, 2, none⟩ = some (.slice Ax0c (z0).2.2.length cx0c) := fun o => keepA qx02
  have rx02 : w6.heap.size < w10.heap.size := bxx0.lt
  have qg00 : w10.cell? ⟨w8.heap.size, 0, none⟩ = some (.slice Ag0a (restG z0 who).1.length cg0a) := bxg0.cell 0
  have pg00 : ∀ o, (w10.alloc o).cell? ⟨w8.heap.size, 0, none⟩ = some (.slice Ag0a (restG z0 who).1.length cg0a) := fun o => keepA qg00
  have rg00 : w8.heap.size < w10.heap.size := bxg0.lt
  have qg01 : w10.cell? ⟨w8.heap.size, 1, none⟩ = some (.slice Ag0b (restG z0 who).2.1.length cg0b) := bxg0.cell 1
  have pg01 : ∀ o, (w10.alloc o).cell? ⟨w8.heap.size, 1, none⟩ = some (.slice Ag0b (restG z0 who).2.1.length cg0b) := fun o => keepA qg01
  have rg01 : w8.heap.size < w10.heap.size := bxg0.lt
  have qg02 : w10.cell? ⟨w8.heap.size, 2, none⟩ = some (.slice Ag0c (restG z0 who).2.2.length cg0c) := bxg0.cell 2
  have pg02 : ∀ o, (w10.alloc o).cell? ⟨w8.heap.size, 2, none⟩ = some (.slice Ag0c (restG z0 who).2.2.length cg0c) := fun o => keepA qg02
  have rg02 : w8.heap.size < w10.heap.size := bxg0.lt
  go_wp2_with fail
  clear qP00 pP00 rP00 qP01 pP01 rP01 qP02 pP02 rP02 qr00 pr00 rr00 qr01 pr01 rr01 qr02 pr02 rr02 qx00 px00 rx00 qx01 px01 rx01 qx02 px02 rx02 qg00 pg00 rg00 qg01 pg01 rg01 qg02 pg02 rg02
  refine (eqInts _ _ _ _ _ _ _ _ _ (og1.hold fg1).reads (or1.hold fr1).reads).mono ?_; rintro e w11 ⟨rfl, hqtw11⟩
  have hbw11 := below_qt hqtw11 (Below.refl w10.heap.size w10)
  have zw11 := hbw11.size
  have hww11 := below_then hbw11 hww10.size hww10
  replace fr1 := fr1.step hbw11
  replace fr0 := fr0.step hbw11
  replace fx0 := fx0.step hbw11
  replace fg1 := fg1.step hbw11
  replace fg0 := fg0.step hbw11
  replace bxP0 := bxP0.below hbw11 bxP0.lt
  replace bxr0 := bxr0.below hbw11 bxr0.lt
  replace bxx0 := bxx0.below hbw11 bxx0.lt
  replace bxg0 := bxg0.below hbw11 bxg0.lt
  rw [eqL_self]
  have qP00 : w11.cell? ⟨w.heap.size, 0, none⟩ = some (.slice A0a n0a c0a) := bxP0.cell 0
  have pP00 : ∀ o, (w11.alloc o).cell? ⟨w.heap.size, 0, none⟩ = some (.slice A0a n0a c0a) := fun o => keepA qP00
  have rP00 : w.heap.size < w11.heap.size := bxP0.lt
  have qP01 : w11.cell? ⟨w.heap.size, 1, none⟩ = some (.slice A0b n0b c0b) := bxP0.cell 1
  have pP01 : ∀ o, (w11.alloc o).cell? ⟨w.heap.size, 1, none⟩ = some (.slice A0b n0b c0b) := fun o => keepA qP01
  have rP01 : w.heap.size < w11.heap.size := bxP0.lt
  have qP02 : w11.cell? ⟨w.heap.size, 2, none⟩ = some (.slice A0c n0c c0c) := bxP0.cell 2
  have pP02 : ∀ o, (w11.alloc o).cell? ⟨w.heap.size, 2, none⟩ = some (.slice A0c n0c c0c) := fun o => keepA qP02
  have rP02 : w.heap.size < w11.heap.size := bxP0.lt
  have qr00 : w11.cell? ⟨w4.heap.size, 0, none⟩ = some (.slice Ar0a (restG z0 who).1.length cr0a) := bxr0.cell 0
  have pr00 : ∀ o, (w11.alloc o).cell? ⟨w4.heap.size, 0, none⟩ = some (.slice Ar0a (restG z0 who).1.length cr0a) := fun o => keepA qr00
  have rr00 : w4.heap.size < w11.heap.size := bxr0.lt
  have qr01 : w11.cell? ⟨w4.heap.size, 1, none⟩ = some (.slice Ar0b (restG z0 who).2.1.length cr0b) := bxr0.cell 1
  have pr01 : ∀ o, (w11.alloc o).cell? ⟨w4.heap.size, 1, none⟩ = some (.slice Ar0b (restG z0 who).2.1.length cr0b) := fun o => keepA qr01
  have rr01 : w4.heap.size < w11.heap.size := bxr0.lt
  have qr02 : w11.cell? ⟨w4.heap.size, 2, none⟩ = some (.slice Ar0c (restG z0 who).2.2.length cr0c) := bxr0.cell 2
  have pr02 : ∀ o, (w11.alloc o).cell? ⟨w4.heap.size, 2, none⟩ = some (.slice Ar0c (restG z0 who).2.2.length cr0c) := fun o => keepA qr02
  have rr02 : w4.heap.size < w11.heap.size := bxr0.lt
  have qx00 : w11.cell? ⟨w6.heap.size, 0, none⟩ = some (.slice Ax0a (z0).1.length cx0a) := bxx0.cell 0
  have px00 : ∀ o, (w11.alloc o).cell? ⟨w6.heap.size, 0, none⟩ = some (.slice Ax0a (z0).1.length cx0a) := fun o => keepA qx00
  have rx00 : w6.heap.size < w11.heap.size := bxx0.lt
  have qx01 : w11.cell? ⟨w6.heap.size, 1, none⟩ = some (.slice Ax0b (z0).2.1.length cx0b) := bxx0.cell 1
  have px01 : ∀ o, (w11.alloc o).cell? ⟨w6.heap.size, 1, none⟩ = some (.slice Ax0b (z0).2.1.length cx0b) := fun o => keepA qx01
  have rx01 : w6.heap.size < w11.heap.size := bxx0.lt
  have qx02 : w11.cell? ⟨w6.heap.size, 2, none⟩ = some (.slice Ax0c (z0).2.2.length cx0c) := bxx0.cell 2
  have px02 : ∀ o, (w11.alloc o).cell? ⟨w6.heap.size, 2, none⟩ = some (.slice Ax0c (z0).2.2.length cx0c) := fun o => keepA qx02
  have rx02 : w6.heap.size < w11.heap.size := bxx0.lt
  have qg00 : w11.cell? ⟨w8.heap.size, 0, none⟩ = some (.slice Ag0a (restG z0 who).1.length cg0a) := bxg0.cell 0
  have pg00 : ∀ o, (w11.alloc o).cell? ⟨w8.heap.size, 0, none⟩ = some (.slice Ag0a (restG z0 who).1.length cg0a) := fun o => keepA qg00
  have rg00 : w8.heap.size < w11.heap.size := bxg0.lt
  have qg01 : w11.cell? ⟨w8.heap.size, 1, none⟩ = some (.slice Ag0b (restG z0 who).2.1.length cg0b) := bxg0.cell 1
  have pg01 : ∀ o, (w11.alloc o).cell? ⟨w8.heap.size, 1, none⟩ = some (.slice Ag0b (restG z0 who).2.1.length cg0b) := fun o => keepA qg01
  have rg01 : w8.heap.size < w11.heap.size := bxg0.lt
  have qg02 : w11.cell? ⟨w8.heap.size, 2, none⟩ = some (.slice Ag0c (restG z0 who).2.2.length cg0c) := bxg0.cell 2
  have pg02 : ∀ o, (w11.alloc o).cell? ⟨w8.heap.size, 2, none⟩ = some (.slice Ag0c (restG z0 who).2.2.length cg0c) := fun o => keepA qg02
  have rg02 : w8.heap.size < w11.heap.size := bxg0.lt
  go_wp2_with fail
  clear qP00 pP00 rP00 qP01 pP01 rP01 qP02 pP02 rP02 qr00 pr00 rr00 qr01 pr01 rr01 qr02 pr02 rr02 qx00 px00 rx00 qx01 px01 rx01 qx02 px02 rx02 qg00 pg00 rg00 qg01 pg01 rg01 qg02 pg02 rg02
  have qP00 : w11.cell? ⟨w.heap.size, 0, none⟩ = some (.slice A0a n0a c0a) := bxP0.cell 0
  have qP01 : w11.cell? ⟨w.heap.size, 1, none⟩ = some (.slice A0b n0b c0b) := bxP0.cell 1
  have qP02 : w11.cell? ⟨w.heap.size, 2, none⟩ = some (.slice A0c n0c c0c) := bxP0.cell 2
  have rP0 : w.heap.size < w11.heap.size := bxP0.lt
  have qr00 : w11.cell? ⟨w4.heap.size, 0, none⟩ = some (.slice Ar0a (restG z0 who).1.length cr0a) := bxr0.cell 0
  have qr01 : w11.cell? ⟨w4.heap.size, 1, none⟩ = some (.slice Ar0b (restG z0 who).2.1.length cr0b) := bxr0.cell 1
  have qr02 : w11.cell? ⟨w4.heap.size, 2, none⟩ = some (.slice Ar0c (restG z0 who).2.2.length cr0c) := bxr0.cell 2
  have rr0 : w4.heap.size < w11.heap.size := bxr0.lt
  have qx00 : w11.cell? ⟨w6.heap.size, 0, none⟩ = some (.slice Ax0a (z0).1.length cx0a) := bxx0.cell 0
  have qx01 : w11.cell? ⟨w6.heap.size, 1, none⟩ = some (.slice Ax0b (z0).2.1.length cx0b) := bxx0.cell 1
  have qx02 : w11.cell? ⟨w6.heap.size, 2, none⟩ = some (.slice Ax0c (z0).2.2.length cx0c) := bxx0.cell 2
  have rx0 : w6.heap.size < w11.heap.size := bxx0.lt
  have qg00 : w11.cell? ⟨w8.heap.size, 0, none⟩ = some (.slice Ag0a (restG z0 who).1.length cg0a) := bxg0.cell 0
  have qg01 : w11.cell? ⟨w8.heap.size, 1, none⟩ = some (.slice Ag0b (restG z0 who).2.1.length cg0b) := bxg0.cell 1
  have qg02 : w11.cell? ⟨w8.heap.size, 2, none⟩ = some (.slice Ag0c (restG z0 who).2.2.length cg0c) := bxg0.cell 2
  have rg0 : w8.heap.size < w11.heap.size := bxg0.lt
  go_region_held3 (fun w' => w'.cell? ⟨w.heap.size, 0, none⟩ = some (.slice A0a n0a c0a) ∧ w'.cell? ⟨w.heap.size, 1, none⟩ = some (.slice A0b n0b c0b) ∧ w'.cell? ⟨w.heap.size, 2, none⟩ = some (.slice A0c n0c c0c) ∧ w'.cell? ⟨w4.heap.size, 0, none⟩ = some (.slice Ar0a (restG z0 who).1.length cr0a) ∧ w'.cell? ⟨w4.heap.size, 1, none⟩ = some (.slice Ar0b (restG z0 who).2.1.length cr0b) ∧ w'.cell? ⟨w4.heap.size, 2, none⟩ = some (.slice Ar0c (restG z0 who).2.2.length cr0c) ∧ w'.cell? ⟨w6.heap.size, 0, none⟩ = some (.slice Ax0a (z0).1.length cx0a) ∧ w'.cell? ⟨w6.heap.size, 1, none⟩ = some (.slice Ax0b (z0).2.1.length cx0b) ∧ w'.cell? ⟨w6.heap.size, 2, none⟩ = some (.slice Ax0c (z0).2.2.length cx0c) ∧ w'.cell? ⟨w8.heap.size, 0, none⟩ = some (.slice Ag0a (restG z0 who).1.length cg0a) ∧ w'.cell? ⟨w8.heap.size, 1, none⟩ = some (.slice Ag0b (restG z0 who).2.1.length cg0b) ∧ w'.cell? ⟨w8.heap.size, 2, none⟩ = some (.slice Ag0c (restG z0 who).2.2.length cg0c))
    (refine ⟨?_, ?_, ?_, ?_, ?_, ?_, ?_, ?_, ?_, ?_, ?_, ?_⟩ <;> repeat (first | with_reducible assumption | with_reducible refine keepD ?_ | with_reducible refine keepA ?_))
    (first
      | (go_at_call 25
         refine (toParity _ _ _ _ _ _ (Nat.le_refl _) (ha0.keep (keeps_below (Below.drew hww11))) hm0).mono ?_; rintro e w12 ⟨vt0a, vt0b, vt0c, rfl, ot0, hbw12⟩
         replace hbw12 := below_undrew hbw12
         obtain ⟨At0a, ct0a, At0b, ct0b, At0c, ct0c, rfl, rfl, rfl⟩ := ot0.form
         have zw12 := hbw12.size
         have hww12 := below_then hbw12 hww11.size hww11
         replace fr1 := fr1.step hbw12
         replace fr0 := fr0.step hbw12
         replace fx0 := fx0.step hbw12
         replace fg1 := fg1.step hbw12
         replace fg0 := fg0.step hbw12
         replace bxP0 := bxP0.below hbw12 bxP0.lt
         replace bxr0 := bxr0.below hbw12 bxr0.lt
         replace bxx0 := bxx0.below hbw12 bxx0.lt
         replace bxg0 := bxg0.below hbw12 bxg0.lt
         have ft0 := Far.refl w11.heap.size w12
         have qP00 : w12.cell? ⟨w.heap.size, 0, none⟩ = some (.slice A0a n0a c0a) := bxP0.cell 0
         have qP01 : w12.cell? ⟨w.heap.size, 1, none⟩ = some (.slice A0b n0b c0b) := bxP0.cell 1
         have qP02 : w12.cell? ⟨w.heap.size, 2, none⟩ = some (.slice A0c n0c c0c) := bxP0.cell 2
         have rP0 : w.heap.size < w12.heap.size := bxP0.lt
         have qr00 : w12.cell? ⟨w4.heap.size, 0, none⟩ = some (.slice Ar0a (restG z0 who).1.length cr0a) := bxr0.cell 0
         have qr01 : w12.cell? ⟨w4.heap.size, 1, none⟩ = some (.slice Ar0b (restG z0 who).2.1.length cr0b) := bxr0.cell 1
         have qr02 : w12.cell? ⟨w4.heap.size, 2, none⟩ = some (.slice Ar0c (restG z0 who).2.2.length cr0c) := bxr0.cell 2
         have rr0 : w4.heap.size < w12.heap.size := bxr0.lt
         have qx00 : w12.cell? ⟨w6.heap.size, 0, none⟩ = some (.slice Ax0a (z0).1.length cx0a) := bxx0.cell 0
         have qx01 : w12.cell? ⟨w6.heap.size, 1, none⟩ = some (.slice Ax0b (z0).2.1.length cx0b) := bxx0.cell 1
         have qx02 : w12.cell? ⟨w6.heap.size, 2, none⟩ = some (.slice Ax0c (z0).2.2.length cx0c) := bxx0.cell 2
         have rx0 : w6.heap.size < w12.heap.size := bxx0.lt
         have qg00 : w12.cell? ⟨w8.heap.size, 0, none⟩ = some (.slice Ag0a (restG z0 who).1.length cg0a) := bxg0.cell 0
         have qg01 : w12.cell? ⟨w8.heap.size, 1, none⟩ = some (.slice Ag0b (restG z0 who).2.1.length cg0b) := bxg0.cell 1
         have qg02 : w12.cell? ⟨w8.heap.size, 2, none⟩ = some (.slice Ag0c (restG z0 who).2.2.length cg0c) := bxg0.cell 2
         have rg0 : w8.heap.size < w12.heap.size := bxg0.lt)
      | (go_at_call 27
         refine (eqParity _ _ _ _ _ _ _ _ _ _ (Nat.le_refl _) (ox0.hold fx0).reads (ot0.hold ft0).reads).mono ?_; rintro e w13 ⟨rfl, hbw13⟩
         have zw13 := hbw13.size
         have hww13 := below_then hbw13 hww12.size hww12
         replace fr1 := fr1.step hbw13
         replace fr0 := fr0.step hbw13
         replace fx0 := fx0.step hbw13
         replace fg1 := fg1.step hbw13
         replace fg0 := fg0.step hbw13
         replace ft0 := ft0.step hbw13
         replace bxP0 := bxP0.below hbw13 bxP0.lt
         replace bxr0 := bxr0.below hbw13 bxr0.lt
         replace bxx0 := bxx0.below hbw13 bxx0.lt
         replace bxg0 := bxg0.below hbw13 bxg0.lt
         rw [eqPar_self]
         have qP00 : w13.cell? ⟨w.heap.size, 0, none⟩ = some (.slice A0a n0a c0a) := bxP0.cell 0
         have qP01 : w13.cell? ⟨w.heap.size, 1, none⟩ = some (.slice A0b n0b c0b) := bxP0.cell 1
         have qP02 : w13.cell? ⟨w.heap.size, 2, none⟩ = some (.slice A0c n0c c0c) := bxP0.cell 2
         have rP0 : w.heap.size < w13.heap.size := bxP0.lt
         have qr00 : w13.cell? ⟨w4.heap.size, 0, none⟩ = some (.slice Ar0a (restG z0 who).1.length cr0a) := bxr0.cell 0
         have qr01 : w13.cell? ⟨w4.heap.size, 1, none⟩ = some (.slice Ar0b (restG z0 who).2.1.length cr0b) := bxr0.cell 1
         have qr02 : w13.cell? ⟨w4.heap.size, 2, none⟩ = some (.slice Ar0c (restG z0 who).2.2.length cr0c) := bxr0.cell 2
         have rr0 : w4.heap.size < w13.heap.size := bxr0.lt
         have qx00 : w13.cell? ⟨w6.heap.size, 0, none⟩ = some (.slice Ax0a (z0).1.length cx0a) := bxx0.cell 0
         have qx01 : w13.cell? ⟨w6.heap.size, 1, none⟩ = some (.slice Ax0b (z0).2.1.length cx0b) := bxx0.cell 1
         have qx02 : w13.cell? ⟨w6.heap.size, 2, none⟩ = some (.slice Ax0c (z0).2.2.length cx0c) := bxx0.cell 2
         have rx0 : w6.heap.size < w13.heap.size := bxx0.lt
         have qg00 : w13.cell? ⟨w8.heap.size, 0, none⟩ = some (.slice Ag0a (restG z0 who).1.length cg0a) := bxg0.cell 0
         have qg01 : w13.cell? ⟨w8.heap.size, 1, none⟩ = some (.slice Ag0b (restG z0 who).2.1.length cg0b) := bxg0.cell 1
         have qg02 : w13.cell? ⟨w8.heap.size, 2, none⟩ = some (.slice Ag0c (restG z0 who).2.2.length cg0c) := bxg0.cell 2
         have rg0 : w8.heap.size < w13.heap.size := bxg0.lt))
  clear qP00 qP01 qP02 rP0 qr00 qr01 qr02 rr0 qx00 qx01 qx02 rx0 qg00 qg01 qg02 rg0
  clear ot0 ft0
  have qP00 : w13.cell? ⟨w.heap.size, 0, none⟩ = some (.slice A0a n0a c0a) := bxP0.cell 0
  have pP00 : ∀ o, (w13.alloc o).cell? ⟨w.heap.size, 0, none⟩ = some (.slice A0a n0a c0a) := fun o => keepA qP00
  have rP00 : w.heap.size < w13.heap.size := bxP0.lt
  have qP01 : w13.cell? ⟨w.heap.size, 1, none⟩ = some (.slice A0b n0b c0b) := bxP0.cell 1
  have pP01 : ∀ o, (w13.alloc o).cell? ⟨w.heap.size, 1, none⟩ = some (.slice A0b n0b c0b) := fun o => keepA qP01
  have rP01 : w.heap.size < w13.heap.size := bxP0.lt
  have qP02 : w13.cell? ⟨w.heap.size, 2, none⟩ = some (.slice A0c n0c c0c) := bxP0.cell 2
  have pP02 : ∀ o, (w13.alloc o).cell? ⟨w.heap.size, 2, none⟩ = some (.slice A0c n0c c0c) := fun o => keepA qP02
  have rP02 : w.heap.size < w13.heap.size := bxP0.lt
  have qr00 : w13.cell? ⟨w4.heap.size, 0, none⟩ = some (.slice Ar0a (restG z0 who).1.length cr0a) := bxr0.cell 0
  have pr00 : ∀ o, (w13.alloc o).cell? ⟨w4.heap.size, 0, none⟩ = some (.slice Ar0a (restG z0 who).1.length cr0a) := fun o => keepA qr00
  have rr00 : w4.heap.size < w13.heap.size := bxr0.lt
  have qr01 : w13.cell? ⟨w4.heap.size, 1, none⟩ = some (.slice Ar0b (restG z0 who).2.1.length cr0b) := bxr0.cell 1
  have pr01 : ∀ o, (w13.alloc o).cell? ⟨w4.heap.size, 1, none⟩ = some (.slice Ar0b (restG z0 who).2.1.length cr0b) := fun o => keepA qr01
  have rr01 : w4.heap.size < w13.heap.size := bxr0.lt
  have qr02 : w13.cell? ⟨w4.heap.size, 2, none⟩ = some (.slice Ar0c (restG z0 who).2.2.length cr0c) := bxr0.cell 2
  have pr02 : ∀ o, (w13.alloc o).cell? ⟨w4.heap.size, 2, none⟩ = some (.slice Ar0c (restG z0 who).2.2.length cr0c) := fun o => keepA qr02
  have rr02 : w4.heap.size < w13.heap.size := bxr0.lt
  have qx00 : w13.cell? ⟨w6.heap.size, 0, none⟩ = some (.slice Ax0a (z0).1.length cx0a) := bxx0.cell 0
  have px00 : ∀ o, (w13.alloc o).cell? ⟨w6.heap.size, 0, none⟩ = some (.slice Ax0a (z0).1.length cx0a) := fun o => keepA qx00
  have rx00 : w6.heap.size < w13.heap.size := bxx0.lt
  have qx01 : w13.cell? ⟨w6.heap.size, 1, none⟩ = some (.slice Ax0b (z0).2.1.length cx0b) := bxx0.cell 1
  have px01 : ∀ o, (w13.alloc o).cell? ⟨w6.heap.size, 1, none⟩ = some (.slice Ax0b (z0).2.1.length cx0b) := fun o => keepA qx01
  have rx01 : w6.heap.size < w13.heap.size := bxx0.lt
  have qx02 : w13.cell? ⟨w6.heap.size, 2, none⟩ = some (.slice Ax0c (z0).2.2.length cx0c) := bxx0.cell 2
  have px02 : ∀ o, (w13.alloc o).cell? ⟨w6.heap.size, 2, none⟩ = some (.slice Ax0c (z0).2.2.length cx0c) := fun o => keepA qx02
  have rx02 : w6.heap.size < w13.heap.size := bxx0.lt
  have qg00 : w13.cell? ⟨w8.heap.size, 0, none⟩ = some (.slice Ag0a (restG z0 who).1.length cg0a) := bxg0.cell 0
  have pg00 : ∀ o, (w13.alloc o).cell? ⟨w8.heap.size, 0, none⟩ = some (.slice Ag0a (restG z0 who).1.length cg0a) := fun o => keepA qg00
  have rg00 : w8.heap.size < w13.heap.size := bxg0.lt
  have qg01 : w13.cell? ⟨w8.heap.size, 1, none⟩ = some (.slice Ag0b (restG z0 who).2.1.length cg0b) := bxg0.cell 1
  have pg01 : ∀ o, (w13.alloc o).cell? ⟨w8.heap.size, 1, none⟩ = some (.slice Ag0b (restG z0 who).2.1.length cg0b) := fun o => keepA qg01
  have rg01 : w8.heap.size < w13.heap.size := bxg0.lt
  have qg02 : w13.cell? ⟨w8.heap.size, 2, none⟩ = some (.slice Ag0c (restG z0 who).2.2.length cg0c) := bxg0.cell 2
  have pg02 : ∀ o, (w13.alloc o).cell? ⟨w8.heap.size, 2, none⟩ = some (.slice Ag0c (restG z0 who).2.2.length cg0c) := fun o => keepA qg02
  have rg02 : w8.heap.size < w13.heap.size := bxg0.lt
  go_wp2_with fail
  clear qP00 pP00 rP00 qP01 pP01 rP01 qP02 pP02 rP02 qr00 pr00 rr00 qr01 pr01 rr01 qr02 pr02 rr02 qx00 px00 rx00 qx01 px01 rx01 qx02 px02 rx02 qg00 pg00 rg00 qg01 pg01 rg01 qg02 pg02 rg02
  refine (markParityU _ _ _ _ (1) _ _ _ (by omega) ox0 fx0 (by omega) (by omega)).mono ?_; rintro e w14 ⟨rfl, onx0, chw14⟩
  have zw14 := chw14.size
  have blw14 : Below w5.heap.size w13 w14 := chw14.below (by omega) (fun x h => h.1)
  have hww14 := below_then blw14 (by omega) hww13
  replace fr1 := fr1.mark chw14 (by omega)
  replace fr0 := fr0.mark chw14 (by omega)
  replace fg1 := fg1.mark chw14 (by omega)
  replace fg0 := fg0.mark chw14 (by omega)
  clear ox0 fx0; have ox0 := onx0; have fx0 := Far.refl w5.heap.size w14
  replace bxP0 := bxP0.chg chw14 (by omega)
  replace bxr0 := bxr0.chg chw14 (by omega)
  replace bxx0 := bxx0.chg chw14 (by omega)
  replace bxg0 := bxg0.chg chw14 (by omega)
  clear ox0 fx0
  clear bxx0
  have qP00 : w14.cell? ⟨w.heap.size, 0, none⟩ = some (.slice A0a n0a c0a) := bxP0.cell 0
  have pP00 : ∀ o, (w14.alloc o).cell? ⟨w.heap.size, 0, none⟩ = some (.slice A0a n0a c0a) := fun o => keepA qP00
  have rP00 : w.heap.size < w14.heap.size := bxP0.lt
  have qP01 : w14.cell? ⟨w.heap.size, 1, none⟩ = some (.slice A0b n0b c0b) := bxP0.cell 1
  have pP01 : ∀ o, (w14.alloc o).cell? ⟨w.heap.size, 1, none⟩ = some (.slice A0b n0b c0b) := fun o => keepA qP01
  have rP01 : w.heap.size < w14.heap.size := bxP0.lt
  have qP02 : w14.cell? ⟨w.heap.size, 2, none⟩ = some (.slice A0c n0c c0c) := bxP0.cell 2
  have pP02 : ∀ o, (w14.alloc o).cell? ⟨w.heap.size, 2, none⟩ = some (.slice A0c n0c c0c) := fun o => keepA qP02
  have rP02 : w.heap.size < w14.heap.size := bxP0.lt
  have qr00 : w14.cell? ⟨w4.heap.size, 0, none⟩ = some (.slice Ar0a (restG z0 who).1.length cr0a) := bxr0.cell 0
  have pr00 : ∀ o, (w14.alloc o).cell? ⟨w4.heap.size, 0, none⟩ = some (.slice Ar0a (restG z0 who).1.length cr0a) := fun o => keepA qr00
  have rr00 : w4.heap.size < w14.heap.size := bxr0.lt
  have qr01 : w14.cell? ⟨w4.heap.size, 1, none⟩ = some (.slice Ar0b (restG z0 who).2.1.length cr0b) := bxr0.cell 1
  have pr01 : ∀ o, (w14.alloc o).cell? ⟨w4.heap.size, 1, none⟩ = some (.slice Ar0b (restG z0 who).2.1.length cr0b) := fun o => keepA qr01
  have rr01 : w4.heap.size < w14.heap.size := bxr0.lt
  have qr02 : w14.cell? ⟨w4.heap.size, 2, none⟩ = some (.slice Ar0c (restG z0 who).2.2.length cr0c) := bxr0.cell 2
  have pr02 : ∀ o, (w14.alloc o).cell? ⟨w4.heap.size, 2, none⟩ = some (.slice Ar0c (restG z0 who).2.2.length cr0c) := fun o => keepA qr02
  have rr02 : w4.heap.size < w14.heap.size := bxr0.lt
  have qg00 : w14.cell? ⟨w8.heap.size, 0, none⟩ = some (.slice Ag0a (restG z0 who).1.length cg0a) := bxg0.cell 0
  have pg00 : ∀ o, (w14.alloc o).cell? ⟨w8.heap.size, 0, none⟩ = some (.slice Ag0a (restG z0 who).1.length cg0a) := fun o => keepA qg00
  have rg00 : w8.heap.size < w14.heap.size := bxg0.lt
  have qg01 : w14.cell? ⟨w8.heap.size, 1, none⟩ = some (.slice Ag0b (restG z0 who).2.1.length cg0b) := bxg0.cell 1
  have pg01 : ∀ o, (w14.alloc o).cell? ⟨w8.heap.size, 1, none⟩ = some (.slice Ag0b (restG z0 who).2.1.length cg0b) := fun o => keepA qg01
  have rg01 : w8.heap.size < w14.heap.size := bxg0.lt
  have qg02 : w14.cell? ⟨w8.heap.size, 2, none⟩ = some (.slice Ag0c (restG z0 who).2.2.length cg0c) := bxg0.cell 2
  have pg02 : ∀ o, (w14.alloc o).cell? ⟨w8.heap.size, 2, none⟩ = some (.slice Ag0c (restG z0 who).2.2.length cg0c) := fun o => keepA qg02
  have rg02 : w8.heap.size < w14.heap.size := bxg0.lt
  go_wp2_with fail
  clear qP00 pP00 rP00 qP01 pP01 rP01 qP02 pP02 rP02 qr00 pr00 rr00 qr01 pr01 rr01 qr02 pr02 rr02 qg00 pg00 rg00 qg01 pg01 rg01 qg02 pg02 rg02
  refine (eqParity _ _ _ _ _ _ _ _ _ _ (Nat.le_refl _) (og0.hold fg0).reads (or0.hold fr0).reads).mono ?_; rintro e w15 ⟨rfl, hbw15⟩
  have zw15 := hbw15.size
  have hww15 := below_then hbw15 hww14.size hww14
  replace fr1 := fr1.step hbw15
  replace fr0 := fr0.step hbw15
  replace fg1 := fg1.step hbw15
  replace fg0 := fg0.step hbw15
  replace bxP0 := bxP0.below hbw15 bxP0.lt
  replace bxr0 := bxr0.below hbw15 bxr0.lt
  replace bxg0 := bxg0.below hbw15 bxg0.lt
  rw [eqPar_self]
  have qP00 : w15.cell? ⟨w.heap.size, 0, none⟩ = some (.slice A0a n0a c0a) := bxP0.cell 0
  have pP00 : ∀ o, (w15.alloc o).cell? ⟨w.heap.size, 0, none⟩ = some (.slice A0a n0a c0a) := fun o => keepA qP00
  have rP00 : w.heap.size < w15.heap.size := bxP0.lt
  have qP01 : w15.cell? ⟨w.heap.size, 1, none⟩ = some (.slice A0b n0b c0b) := bxP0.cell 1
  have pP01 : ∀ o, (w15.alloc o).cell? ⟨w.heap.size, 1, none⟩ = some (.slice A0b n0b c0b) := fun o => keepA qP01
  have rP01 : w.heap.size < w15.heap.size := bxP0.lt
  have qP02 : w15.cell? ⟨w.heap.size, 2, none⟩ = some (.slice A0c n0c c0c) := bxP0.cell 2
  have pP02 : ∀ o, (w15.alloc o).cell? ⟨w.heap.size, 2, none⟩ = some (.slice A0c n0c c0c) := fun o => keepA qP02
  have rP02 : w.heap.size < w15.heap.size := bxP0.lt
  have qr00 : w15.cell? ⟨w4.heap.size, 0, none⟩ = some (.slice Ar0a (restG z0 who).1.length cr0a) := bxr0.cell 0
  have pr00 : ∀ o, (w15.alloc o).cell? ⟨w4.heap.size, 0, none⟩ = some (.slice Ar0a (restG z0 who).1.length cr0a) := fun o => keepA qr00
  have rr00 : w4.heap.size < w15.heap.size := bxr0.lt
  have qr01 : w15.cell? ⟨w4.heap.size, 1, none⟩ = some (.slice Ar0b (restG z0 who).2.1.length cr0b) := bxr0.cell 1
  have pr01 : ∀ o, (w15.alloc o).cell? ⟨w4.heap.size, 1, none⟩ = some (.slice Ar0b (restG z0 who).2.1.length cr0b) := fun o => keepA qr01
  have rr01 : w4.heap.size < w15.heap.size := bxr0.lt
  have qr02 : w15.cell? ⟨w4.heap.size, 2, none⟩ = some (.slice Ar0c (restG z0 who).2.2.length cr0c) := bxr0.cell 2
  have pr02 : ∀ o, (w15.alloc o).cell? ⟨w4.heap.size, 2, none⟩ = some (.slice Ar0c (restG z0 who).2.2.length cr0c) := fun o => keepA qr02
  have rr02 : w4.heap.size < w15.heap.size := bxr0.lt
  have qg00 : w15.cell? ⟨w8.heap.size, 0, none⟩ = some (.slice Ag0a (restG z0 who).1.length cg0a) := bxg0.cell 0
  have pg00 : ∀ o, (w15.alloc o).cell? ⟨w8.heap.size, 0, none⟩ = some (.slice Ag0a (restG z0 who).1.length cg0a) := fun o => keepA qg00
  have rg00 : w8.heap.size < w15.heap.size := bxg0.lt
  have qg01 : w15.cell? ⟨w8.heap.size, 1, none⟩ = some (.slice Ag0b (restG z0 who).2.1.length cg0b) := bxg0.cell 1
  have pg01 : ∀ o, (w15.alloc o).cell? ⟨w8.heap.size, 1, none⟩ = some (.slice Ag0b (restG z0 who).2.1.length cg0b) := fun o => keepA qg01
  have rg01 : w8.heap.size < w15.heap.size := bxg0.lt
  have qg02 : w15.cell? ⟨w8.heap.size, 2, none⟩ = some (.slice Ag0c (restG z0 who).2.2.length cg0c) := bxg0.cell 2
  have pg02 : ∀ o, (w15.alloc o).cell? ⟨w8.heap.size, 2, none⟩ = some (.slice Ag0c (restG z0 who).2.2.length cg0c) := fun o => keepA qg02
  have rg02 : w8.heap.size < w15.heap.size := bxg0.lt
  go_wp2_with fail
  clear qP00 pP00 rP00 qP01 pP01 rP01 qP02 pP02 rP02 qr00 pr00 rr00 qr01 pr01 rr01 qr02 pr02 rr02 qg00 pg00 rg00 qg01 pg01 rg01 qg02 pg02 rg02
  refine (eqInts _ _ _ _ _ _ _ _ _ (og1.hold fg1).reads (or1.hold fr1).reads).mono ?_; rintro e w16 ⟨rfl, hqtw16⟩
  have hbw16 := below_qt hqtw16 (Below.refl w15.heap.size w15)
  have zw16 := hbw16.size
  have hww16 := below_then hbw16 hww15.size hww15
  replace fr1 := fr1.step hbw16
  replace fr0 := fr0.step hbw16
  replace fg1 := fg1.step hbw16
  replace fg0 := fg0.step hbw16
  replace bxP0 := bxP0.below hbw16 bxP0.lt
  replace bxr0 := bxr0.below hbw16 bxr0.lt
  replace bxg0 := bxg0.below hbw16 bxg0.lt
  rw [eqL_self]
  have qP00 : w16.cell? ⟨w.heap.size, 0, none⟩ = some (.slice A0a n0a c0a) := bxP0.cell 0
  have pP00 : ∀ o, (w16.alloc o).cell? ⟨w.heap.size, 0, none⟩ = some (.slice A0a n0a c0a) := fun o => keepA qP00
  have rP00 : w.heap.size < w16.heap.size := bxP0.lt
  have qP01 : w16.cell? ⟨w.heap.size, 1, none⟩ = some (.slice A0b n0b c0b) := bxP0.cell 1
  have pP01 : ∀ o, (w16.alloc o).cell? ⟨w.heap.size, 1, none⟩ = some (.slice A0b n0b c0b) := fun o => keepA qP01
  have rP01 : w.heap.size < w16.heap.size := bxP0.lt
  have qP02 : w16.cell? ⟨w.heap.size, 2, none⟩ = some (.slice A0c n0c c0c) := bxP0.cell 2
  have pP02 : ∀ o, (w16.alloc o).cell? ⟨w.heap.size, 2, none⟩ = some (.slice A0c n0c c0c) := fun o => keepA qP02
  have rP02 : w.heap.size < w16.heap.size := bxP0.lt
  have qr00 : w16.cell? ⟨w4.heap.size, 0, none⟩ = some (.slice Ar0a (restG z0 who).1.length cr0a) := bxr0.cell 0
  have pr00 : ∀ o, (w16.alloc o).cell? ⟨w4.heap.size, 0, none⟩ = some (.slice Ar0a (restG z0 who).1.length cr0a) := fun o => keepA qr00
  have rr00 : w4.heap.size < w16.heap.size := bxr0.lt
  have qr01 : w16.cell? ⟨w4.heap.size, 1, none⟩ = some (.slice Ar0b (restG z0 who).2.1.length cr0b) := bxr0.cell 1
  have pr01 : ∀ o, (w16.alloc o).cell? ⟨w4.heap.size, 1, none⟩ = some (.slice Ar0b (restG z0 who).2.1.length cr0b) := fun o => keepA qr01
  have rr01 : w4.heap.size < w16.heap.size := bxr0.lt
  have qr02 : w16.cell? ⟨w4.heap.size, 2, none⟩ = some (.slice Ar0c (restG z0 who).2.2.length cr0c) := bxr0.cell 2
  have pr02 : ∀ o, (w16.alloc o).cell? ⟨w4.heap.size, 2, none⟩ = some (.slice Ar0c (restG z0 who).2.2.length cr0c) := fun o => keepA qr02
  have rr02 : w4.heap.size < w16.heap.size := bxr0.lt
  have qg00 : w16.cell? ⟨w8.heap.size, 0, none⟩ = some (.slice Ag0a (restG z0 who).1.length cg0a) := bxg0.cell 0
  have pg00 : ∀ o, (w16.alloc o).cell? ⟨w8.heap.size, 0, none⟩ = some (.slice Ag0a (restG z0 who).1.length cg0a) := fun o => keepA qg00
  have rg00 : w8.heap.size < w16.heap.size := bxg0.lt
  have qg01 : w16.cell? ⟨w8.heap.size, 1, none⟩ = some (.slice Ag0b (restG z0 who).2.1.length cg0b) := bxg0.cell 1
  have pg01 : ∀ o, (w16.alloc o).cell? ⟨w8.heap.size, 1, none⟩ = some (.slice Ag0b (restG z0 who).2.1.length cg0b) := fun o => keepA qg01
  have rg01 : w8.heap.size < w16.heap.size := bxg0.lt
  have qg02 : w16.cell? ⟨w8.heap.size, 2, none⟩ = some (.slice Ag0c (restG z0 who).2.2.length cg0c) := bxg0.cell 2
  have pg02 : ∀ o, (w16.alloc o).cell? ⟨w8.heap.size, 2, none⟩ = some (.slice Ag0c (restG z0 who).2.2.length cg0c) := fun o => keepA qg02
  have rg02 : w8.heap.size < w16.heap.size := bxg0.lt
  go_wp2_with fail
  clear qP00 pP00 rP00 qP01 pP01 rP01 qP02 pP02 rP02 qr00 pr00 rr00 qr01 pr01 rr01 qr02 pr02 rr02 qg00 pg00 rg00 qg01 pg01 rg01 qg02 pg02 rg02
  refine (markParityU _ _ _ _ 1 _ _ _ (by omega) og0 fg0 (by omega) (by omega)).mono ?_; rintro e w17 ⟨rfl, ong0, chw17⟩
  have zw17 := chw17.size
  have blw17 : Below mg.heap.size w16 w17 := chw17.below (by omega) (fun x h => h.1)
  have hww17 := below_then blw17 (by omega) hww16
  replace fr1 := fr1.mark chw17 (by omega)
  replace fr0 := fr0.mark chw17 (by omega)
  replace fg1 := fg1.mark chw17 (by omega)
  clear og0 fg0; have og0 := ong0; have fg0 := Far.refl mg.heap.size w17
  replace bxP0 := bxP0.chg chw17 (by omega)
  replace bxr0 := bxr0.chg chw17 (by omega)
  replace bxg0 := bxg0.chg chw17 (by omega)
  have qP00 : w17.cell? ⟨w.heap.size, 0, none⟩ = some (.slice A0a n0a c0a) := bxP0.cell 0
  have pP00 : ∀ o, (w17.alloc o).cell? ⟨w.heap.size, 0, none⟩ = some (.slice A0a n0a c0a) := fun o => keepA qP00
  have rP00 : w.heap.size < w17.heap.size := bxP0.lt
  have qP01 : w17.cell? ⟨w.heap.size, 1, none⟩ = some (.slice A0b n0b c0b) := bxP0.cell 1
  have pP01 : ∀ o, (w17.alloc o).cell? ⟨w.heap.size, 1, none⟩ = some (.slice A0b n0b c0b) := fun o => keepA qP01
  have rP01 : w.heap.size < w17.heap.size := bxP0.lt
  have qP02 : w17.cell? ⟨w.heap.size, 2, none⟩ = some (.slice A0c n0c c0c) := bxP0.cell 2
  have pP02 : ∀ o, (w17.alloc o).cell? ⟨w.heap.size, 2, none⟩ = some (.slice A0c n0c c0c) := fun o => keepA qP02
  have rP02 : w.heap.size < w17.heap.size := bxP0.lt
  have qr00 : w17.cell? ⟨w4.heap.size, 0, none⟩ = some (.slice Ar0a (restG z0 who).1.length cr0a) := bxr0.cell 0
  have pr00 : ∀ o, (w17.alloc o).cell? ⟨w4.heap.size, 0, none⟩ = some (.slice Ar0a (restG z0 who).1.length cr0a) := fun o => keepA qr00
  have rr00 : w4.heap.size < w17.heap.size := bxr0.lt
  have qr01 : w17.cell? ⟨w4.heap.size, 1, none⟩ = some (.slice Ar0b (restG z0 who).2.1.length cr0b) := bxr0.cell 1
  have pr01 : ∀ o, (w17.alloc o).cell? ⟨w4.heap.size, 1, none⟩ = some (.slice Ar0b (restG z0 who).2.1.length cr0b) := fun o => keepA qr01
  have rr01 : w4.heap.size < w17.heap.size := bxr0.lt
  have qr02 : w17.cell? ⟨w4.heap.size, 2, none⟩ = some (.slice Ar0c (restG z0 who).2.2.length cr0c) := bxr0.cell 2
  have pr02 : ∀ o, (w17.alloc o).cell? ⟨w4.heap.size, 2, none⟩ = some (.slice Ar0c (restG z0 who).2.2.length cr0c) := fun o => keepA qr02
  have rr02 : w4.heap.size < w17.heap.size := bxr0.lt
  have qg00 : w17.cell? ⟨w8.heap.size, 0, none⟩ = some (.slice Ag0a (restG z0 who).1.length cg0a) := bxg0.cell 0
  have pg00 : ∀ o, (w17.alloc o).cell? ⟨w8.heap.size, 0, none⟩ = some (.slice Ag0a (restG z0 who).1.length cg0a) := fun o => keepA qg00
  have rg00 : w8.heap.size < w17.heap.size := bxg0.lt
  have qg01 : w17.cell? ⟨w8.heap.size, 1, none⟩ = some (.slice Ag0b (restG z0 who).2.1.length cg0b) := bxg0.cell 1
  have pg01 : ∀ o, (w17.alloc o).cell? ⟨w8.heap.size, 1, none⟩ = some (.slice Ag0b (restG z0 who).2.1.length cg0b) := fun o => keepA qg01
  have rg01 : w8.heap.size < w17.heap.size := bxg0.lt
  have qg02 : w17.cell? ⟨w8.heap.size, 2, none⟩ = some (.slice Ag0c (restG z0 who).2.2.length cg0c) := bxg0.cell 2
  have pg02 : ∀ o, (w17.alloc o).cell? ⟨w8.heap.size, 2, none⟩ = some (.slice Ag0c (restG z0 who).2.2.length cg0c) := fun o => keepA qg02
  have rg02 : w8.heap.size < w17.heap.size := bxg0.lt
  go_wp2_with fail
  clear qP00 pP00 rP00 qP01 pP01 rP01 qP02 pP02 rP02 qr00 pr00 rr00 qr01 pr01 rr01 qr02 pr02 rr02 qg00 pg00 rg00 qg01 pg01 rg01 qg02 pg02 rg02
  refine (markIntsU _ _ _ _ (1 + (ptot (restG z0 who) : Int)) _ _ _ og1 fg1 (by omega) (by omega)).mono ?_; rintro e w18 ⟨rfl, ong1, chw18⟩
  have zw18 := chw18.size
  have blw18 : Below lg w17 w18 := chw18.below (by omega) (fun x h => h.1)
  have hww18 := below_then blw18 (by omega) hww17
  replace fr1 := fr1.mark chw18 (by omega)
  replace fr0 := fr0.mark chw18 (by omega)
  replace fg0 := fg0.mark chw18 (by omega)
  clear og1 fg1; have og1 := ong1; have fg1 := Far.refl lg w18
  replace bxP0 := bxP0.chg chw18 (by omega)
  replace bxr0 := bxr0.chg chw18 (by omega)
  replace bxg0 := bxg0.chg chw18 (by omega)
  have qP00 : w18.cell? ⟨w.heap.size, 0, none⟩ = some (.slice A0a n0a c0a) := bxP0.cell 0
  have pP00 : ∀ o, (w18.alloc o).cell? ⟨w.heap.size, 0, none⟩ = some (.slice A0a n0a c0a) := fun o => keepA qP00
  have rP00 : w.heap.size < w18.heap.size := bxP0.lt
  have qP01 : w18.cell? ⟨w.heap.size, 1, none⟩ = some (.slice A0b n0b c0b) := bxP0.cell 1
  have pP01 : ∀ o, (w18.alloc o).cell? ⟨w.heap.size, 1, none⟩ = some (.slice A0b n0b c0b) := fun o => keepA qP01
  have rP01 : w.heap.size < w18.heap.size := bxP0.lt
  have qP02 : w18.cell? ⟨w.heap.size, 2, none⟩ = some (.slice A0c n0c c0c) := bxP0.cell 2
  have pP02 : ∀ o, (w18.alloc o).cell? ⟨w.heap.size, 2, none⟩ = some (.slice A0c n0c c0c) := fun o => keepA qP02
  have rP02 : w.heap.size < w18.heap.size := bxP0.lt
  have qr00 : w18.cell? ⟨w4.heap.size, 0, none⟩ = some (.slice Ar0a (restG z0 who).1.length cr0a) := bxr0.cell 0
  have pr00 : ∀ o, (w18.alloc o).cell? ⟨w4.heap.size, 0, none⟩ = some (.slice Ar0a (restG z0 who).1.length cr0a) := fun o => keepA qr00
  have rr00 : w4.heap.size < w18.heap.size := bxr0.lt
  have qr01 : w18.cell? ⟨w4.heap.size, 1, none⟩ = some (.slice Ar0b (restG z0 who).2.1.length cr0b) := bxr0.cell 1
  have pr01 : ∀ o, (w18.alloc o).cell? ⟨w4.heap.size, 1, none⟩ = some (.slice Ar0b (restG z0 who).2.1.length cr0b) := fun o => keepA qr01
  have rr01 : w4.heap.size < w18.heap.size := bxr0.lt
  have qr02 : w18.cell? ⟨w4.heap.size, 2, none⟩ = some (.slice Ar0c (restG z0 who).2.2.length cr0c) := bxr0.cell 2
  have pr02 : ∀ o, (w18.alloc o).cell? ⟨w4.heap.size, 2, none⟩ = some (.slice Ar0c (restG z0 who).2.2.length cr0c) := fun o => keepA qr02
  have rr02 : w4.heap.size < w18.heap.size := bxr0.lt
  have qg00 : w18.cell? ⟨w8.heap.size, 0, none⟩ = some (.slice Ag0a (restG z0 who).1.length cg0a) := bxg0.cell 0
  have pg00 : ∀ o, (w18.alloc o).cell? ⟨w8.heap.size, 0, none⟩ = some (.slice Ag0a (restG z0 who).1.length cg0a) := fun o => keepA qg00
  have rg00 : w8.heap.size < w18.heap.size := bxg0.lt
  have qg01 : w18.cell? ⟨w8.heap.size, 1, none⟩ = some (.slice Ag0b (restG z0 who).2.1.length cg0b) := bxg0.cell 1
  have pg01 : ∀ o, (w18.alloc o).cell? ⟨w8.heap.size, 1, none⟩ = some (.slice Ag0b (restG z0 who).2.1.length cg0b) := fun o => keepA qg01
  have rg01 : w8.heap.size < w18.heap.size := bxg0.lt
  have qg02 : w18.cell? ⟨w8.heap.size, 2, none⟩ = some (.slice Ag0c (restG z0 who).2.2.length cg0c) := bxg0.cell 2
  have pg02 : ∀ o, (w18.alloc o).cell? ⟨w8.heap.size, 2, none⟩ = some (.slice Ag0c (restG z0 who).2.2.length cg0c) := fun o => keepA qg02
  have rg02 : w8.heap.size < w18.heap.size := bxg0.lt
  go_wp2_with fail
  clear qP00 pP00 rP00 qP01 pP01 rP01 qP02 pP02 rP02 qr00 pr00 rr00 qr01 pr01 rr01 qr02 pr02 rr02 qg00 pg00 rg00 qg01 pg01 rg01 qg02 pg02 rg02
  refine (heldParity _ _ _ (restG z0 who) 1 _ _ (Nat.le_refl _) (og0.hold fg0).reads (by omega) (by omega)).mono ?_; rintro e w19 ⟨rfl, hbw19⟩
  have zw19 := hbw19.size
  have hww19 := below_then hbw19 hww18.size hww18
  replace fr1 := fr1.step hbw19
  replace fr0 := fr0.step hbw19
  replace fg1 := fg1.step hbw19
  replace fg0 := fg0.step hbw19
  replace bxP0 := bxP0.below hbw19 bxP0.lt
  replace bxr0 := bxr0.below hbw19 bxr0.lt
  replace bxg0 := bxg0.below hbw19 bxg0.lt
  have qP00 : w19.cell? ⟨w.heap.size, 0, none⟩ = some (.slice A0a n0a c0a) := bxP0.cell 0
  have pP00 : ∀ o, (w19.alloc o).cell? ⟨w.heap.size, 0, none⟩ = some (.slice A0a n0a c0a) := fun o => keepA qP00
  have rP00 : w.heap.size < w19.heap.size := bxP0.lt
  have qP01 : w19.cell? ⟨w.heap.size, 1, none⟩ = some (.slice A0b n0b c0b) := bxP0.cell 1
  have pP01 : ∀ o, (w19.alloc o).cell? ⟨w.heap.size, 1, none⟩ = some (.slice A0b n0b c0b) := fun o => keepA qP01
  have rP01 : w.heap.size < w19.heap.size := bxP0.lt
  have qP02 : w19.cell? ⟨w.heap.size, 2, none⟩ = some (.slice A0c n0c c0c) := bxP0.cell 2
  have pP02 : ∀ o, (w19.alloc o).cell? ⟨w.heap.size, 2, none⟩ = some (.slice A0c n0c c0c) := fun o => keepA qP02
  have rP02 : w.heap.size < w19.heap.size := bxP0.lt
  have qr00 : w19.cell? ⟨w4.heap.size, 0, none⟩ = some (.slice Ar0a (restG z0 who).1.length cr0a) := bxr0.cell 0
  have pr00 : ∀ o, (w19.alloc o).cell? ⟨w4.heap.size, 0, none⟩ = some (.slice Ar0a (restG z0 who).1.length cr0a) := fun o => keepA qr00
  have rr00 : w4.heap.size < w19.heap.size := bxr0.lt
  have qr01 : w19.cell? ⟨w4.heap.size, 1, none⟩ = some (.slice Ar0b (restG z0 who).2.1.length cr0b) := bxr0.cell 1
  have pr01 : ∀ o, (w19.alloc o).cell? ⟨w4.heap.size, 1, none⟩ = some (.slice Ar0b (restG z0 who).2.1.length cr0b) := fun o => keepA qr01
  have rr01 : w4.heap.size < w19.heap.size := bxr0.lt
  have qr02 : w19.cell? ⟨w4.heap.size, 2, none⟩ = some (.slice Ar0c (restG z0 who).2.2.length cr0c) := bxr0.cell 2
  have pr02 : ∀ o, (w19.alloc o).cell? ⟨w4.heap.size, 2, none⟩ = some (.slice Ar0c (restG z0 who).2.2.length cr0c) := fun o => keepA qr02
  have rr02 : w4.heap.size < w19.heap.size := bxr0.lt
  have qg00 : w19.cell? ⟨w8.heap.size, 0, none⟩ = some (.slice Ag0a (restG z0 who).1.length cg0a) := bxg0.cell 0
  have pg00 : ∀ o, (w19.alloc o).cell? ⟨w8.heap.size, 0, none⟩ = some (.slice Ag0a (restG z0 who).1.length cg0a) := fun o => keepA qg00
  have rg00 : w8.heap.size < w19.heap.size := bxg0.lt
  have qg01 : w19.cell? ⟨w8.heap.size, 1, none⟩ = some (.slice Ag0b (restG z0 who).2.1.length cg0b) := bxg0.cell 1
  have pg01 : ∀ o, (w19.alloc o).cell? ⟨w8.heap.size, 1, none⟩ = some (.slice Ag0b (restG z0 who).2.1.length cg0b) := fun o => keepA qg01
  have rg01 : w8.heap.size < w19.heap.size := bxg0.lt
  have qg02 : w19.cell? ⟨w8.heap.size, 2, none⟩ = some (.slice Ag0c (restG z0 who).2.2.length cg0c) := bxg0.cell 2
  have pg02 : ∀ o, (w19.alloc o).cell? ⟨w8.heap.size, 2, none⟩ = some (.slice Ag0c (restG z0 who).2.2.length cg0c) := fun o => keepA qg02
  have rg02 : w8.heap.size < w19.heap.size := bxg0.lt
  go_wp2_with fail
  clear qP00 pP00 rP00 qP01 pP01 rP01 qP02 pP02 rP02 qr00 pr00 rr00 qr01 pr01 rr01 qr02 pr02 rr02 qg00 pg00 rg00 qg01 pg01 rg01 qg02 pg02 rg02
  refine (heldInts _ _ _ (1 + (ptot (restG z0 who) : Int)) _ (og1.hold fg1).reads (by omega) (by omega)).mono ?_; rintro e w20 ⟨rfl, hqtw20⟩
  have hbw20 := below_qt hqtw20 (Below.refl w19.heap.size w19)
  have zw20 := hbw20.size
  have hww20 := below_then hbw20 hww19.size hww19
  replace fr1 := fr1.step hbw20
  replace fr0 := fr0.step hbw20
  replace fg1 := fg1.step hbw20
  replace fg0 := fg0.step hbw20
  replace bxP0 := bxP0.below hbw20 bxP0.lt
  replace bxr0 := bxr0.below hbw20 bxr0.lt
  replace bxg0 := bxg0.below hbw20 bxg0.lt
  have qP00 : w20.cell? ⟨w.heap.size, 0, none⟩ = some (.slice A0a n0a c0a) := bxP0.cell 0
  have pP00 : ∀ o, (w20.alloc o).cell? ⟨w.heap.size, 0, none⟩ = some (.slice A0a n0a c0a) := fun o => keepA qP00
  have rP00 : w.heap.size < w20.heap.size := bxP0.lt
  have qP01 : w20.cell? ⟨w.heap.size, 1, none⟩ = some (.slice A0b n0b c0b) := bxP0.cell 1
  have pP01 : ∀ o, (w20.alloc o).cell? ⟨w.heap.size, 1, none⟩ = some (.slice A0b n0b c0b) := fun o => keepA qP01
  have rP01 : w.heap.size < w20.heap.size := bxP0.lt
  have qP02 : w20.cell? ⟨w.heap.size, 2, none⟩ = some (.slice A0c n0c c0c) := bxP0.cell 2
  have pP02 : ∀ o, (w20.alloc o).cell? ⟨w.heap.size, 2, none⟩ = some (.slice A0c n0c c0c) := fun o => keepA qP02
  have rP02 : w.heap.size < w20.heap.size := bxP0.lt
  have qr00 : w20.cell? ⟨w4.heap.size, 0, none⟩ = some (.slice Ar0a (restG z0 who).1.length cr0a) := bxr0.cell 0
  have pr00 : ∀ o, (w20.alloc o).cell? ⟨w4.heap.size, 0, none⟩ = some (.slice Ar0a (restG z0 who).1.length cr0a) := fun o => keepA qr00
  have rr00 : w4.heap.size < w20.heap.size := bxr0.lt
  have qr01 : w20.cell? ⟨w4.heap.size, 1, none⟩ = some (.slice Ar0b (restG z0 who).2.1.length cr0b) := bxr0.cell 1
  have pr01 : ∀ o, (w20.alloc o).cell? ⟨w4.heap.size, 1, none⟩ = some (.slice Ar0b (restG z0 who).2.1.length cr0b) := fun o => keepA qr01
  have rr01 : w4.heap.size < w20.heap.size := bxr0.lt
  have qr02 : w20.cell? ⟨w4.heap.size, 2, none⟩ = some (.slice Ar0c (restG z0 who).2.2.length cr0c) := bxr0.cell 2
  have pr02 : ∀ o, (w20.alloc o).cell? ⟨w4.heap.size, 2, none⟩ = some (.slice Ar0c (restG z0 who).2.2.length cr0c) := fun o => keepA qr02
  have rr02 : w4.heap.size < w20.heap.size := bxr0.lt
  have qg00 : w20.cell? ⟨w8.heap.size, 0, none⟩ = some (.slice Ag0a (restG z0 who).1.length cg0a) := bxg0.cell 0
  have pg00 : ∀ o, (w20.alloc o).cell? ⟨w8.heap.size, 0, none⟩ = some (.slice Ag0a (restG z0 who).1.length cg0a) := fun o => keepA qg00
  have rg00 : w8.heap.size < w20.heap.size := bxg0.lt
  have qg01 : w20.cell? ⟨w8.heap.size, 1, none⟩ = some (.slice Ag0b (restG z0 who).2.1.length cg0b) := bxg0.cell 1
  have pg01 : ∀ o, (w20.alloc o).cell? ⟨w8.heap.size, 1, none⟩ = some (.slice Ag0b (restG z0 who).2.1.length cg0b) := fun o => keepA qg01
  have rg01 : w8.heap.size < w20.heap.size := bxg0.lt
  have qg02 : w20.cell? ⟨w8.heap.size, 2, none⟩ = some (.slice Ag0c (restG z0 who).2.2.length cg0c) := bxg0.cell 2
  have pg02 : ∀ o, (w20.alloc o).cell? ⟨w8.heap.size, 2, none⟩ = some (.slice Ag0c (restG z0 who).2.2.length cg0c) := fun o => keepA qg02
  have rg02 : w8.heap.size < w20.heap.size := bxg0.lt
  go_wp2_with fail
  clear qP00 pP00 rP00 qP01 pP01 rP01 qP02 pP02 rP02 qr00 pr00 rr00 qr01 pr01 rr01 qr02 pr02 rr02 qg00 pg00 rg00 qg01 pg01 rg01 qg02 pg02 rg02
  refine (toParity _ _ _ _ _ _ (Nat.le_refl _) (ha0.keep (keeps_below hww20)) hm0).mono ?_; rintro e w21 ⟨vs0a, vs0b, vs0c, rfl, os0, hbw21⟩
  obtain ⟨As0a, cs0a, As0b, cs0b, As0c, cs0c, rfl, rfl, rfl⟩ := os0.form
  have zw21 := hbw21.size
  have hww21 := below_then hbw21 hww20.size hww20
  replace fr1 := fr1.step hbw21
  replace fr0 := fr0.step hbw21
  replace fg1 := fg1.step hbw21
  replace fg0 := fg0.step hbw21
  replace bxP0 := bxP0.below hbw21 bxP0.lt
  replace bxr0 := bxr0.below hbw21 bxr0.lt
  replace bxg0 := bxg0.below hbw21 bxg0.lt
  have fs0 := Far.refl w20.heap.size w21
  have qP00 : w21.cell? ⟨w.heap.size, 0, none⟩ = some (.slice A0a n0a c0a) := bxP0.cell 0
  have pP00 : ∀ o, (w21.alloc o).cell? ⟨w.heap.size, 0, none⟩ = some (.slice A0a n0a c0a) := fun o => keepA qP00
  have rP00 : w.heap.size < w21.heap.size := bxP0.lt
  have qP01 : w21.cell? ⟨w.heap.size, 1, none⟩ = some (.slice A0b n0b c0b) := bxP0.cell 1
  have pP01 : ∀ o, (w21.alloc o).cell? ⟨w.heap.size, 1, none⟩ = some (.slice A0b n0b c0b) := fun o => keepA qP01
  have rP01 : w.heap.size < w21.heap.size := bxP0.lt
  have qP02 : w21.cell? ⟨w.heap.size, 2, none⟩ = some (.slice A0c n0c c0c) := bxP0.cell 2
  have pP02 : ∀ o, (w21.alloc o).cell? ⟨w.heap.size, 2, none⟩ = some (.slice A0c n0c c0c) := fun o => keepA qP02
  have rP02 : w.heap.size < w21.heap.size := bxP0.lt
  have qr00 : w21.cell? ⟨w4.heap.size, 0, none⟩ = some (.slice Ar0a (restG z0 who).1.length cr0a) := bxr0.cell 0
  have pr00 : ∀ o, (w21.alloc o).cell? ⟨w4.heap.size, 0, none⟩ = some (.slice Ar0a (restG z0 who).1.length cr0a) := fun o => keepA qr00
  have rr00 : w4.heap.size < w21.heap.size := bxr0.lt
  have qr01 : w21.cell? ⟨w4.heap.size, 1, none⟩ = some (.slice Ar0b (restG z0 who).2.1.length cr0b) := bxr0.cell 1
  have pr01 : ∀ o, (w21.alloc o).cell? ⟨w4.heap.size, 1, none⟩ = some (.slice Ar0b (restG z0 who).2.1.length cr0b) := fun o => keepA qr01
  have rr01 : w4.heap.size < w21.heap.size := bxr0.lt
  have qr02 : w21.cell? ⟨w4.heap.size, 2, none⟩ = some (.slice Ar0c (restG z0 who).2.2.length cr0c) := bxr0.cell 2
  have pr02 : ∀ o, (w21.alloc o).cell? ⟨w4.heap.size, 2, none⟩ = some (.slice Ar0c (restG z0 who).2.2.length cr0c) := fun o => keepA qr02
  have rr02 : w4.heap.size < w21.heap.size := bxr0.lt
  have qg00 : w21.cell? ⟨w8.heap.size, 0, none⟩ = some (.slice Ag0a (restG z0 who).1.length cg0a) := bxg0.cell 0
  have pg00 : ∀ o, (w21.alloc o).cell? ⟨w8.heap.size, 0, none⟩ = some (.slice Ag0a (restG z0 who).1.length cg0a) := fun o => keepA qg00
  have rg00 : w8.heap.size < w21.heap.size := bxg0.lt
  have qg01 : w21.cell? ⟨w8.heap.size, 1, none⟩ = some (.slice Ag0b (restG z0 who).2.1.length cg0b) := bxg0.cell 1
  have pg01 : ∀ o, (w21.alloc o).cell? ⟨w8.heap.size, 1, none⟩ = some (.slice Ag0b (restG z0 who).2.1.length cg0b) := fun o => keepA qg01
  have rg01 : w8.heap.size < w21.heap.size := bxg0.lt
  have qg02 : w21.cell? ⟨w8.heap.size, 2, none⟩ = some (.slice Ag0c (restG z0 who).2.2.length cg0c) := bxg0.cell 2
  have pg02 : ∀ o, (w21.alloc o).cell? ⟨w8.heap.size, 2, none⟩ = some (.slice Ag0c (restG z0 who).2.2.length cg0c) := fun o => keepA qg02
  have rg02 : w8.heap.size < w21.heap.size := bxg0.lt
  go_wp2_with fail
  clear qP00 pP00 rP00 qP01 pP01 rP01 qP02 pP02 rP02 qr00 pr00 rr00 qr01 pr01 rr01 qr02 pr02 rr02 qg00 pg00 rg00 qg01 pg01 rg01 qg02 pg02 rg02
  refine (implRestOf _ _ _ _ _ _ _ (Nat.le_refl _) (os0.hold fs0).reads).mono ?_; rintro e w22 ⟨mh, lh, vh1, vh0a, vh0b, vh0c, rfl, oh0, oh1, fh1, hlh, hbw22⟩
  obtain ⟨Ah0a, ch0a, Ah0b, ch0b, Ah0c, ch0c, rfl, rfl, rfl⟩ := oh0.form
  obtain ⟨Ah1, ch1, rfl⟩ := oh1.form
  obtain ⟨hlh, hmh⟩ := hlh; have hsh := fh1.size
  have zw22 := hbw22.size
  have hww22 := below_then hbw22 hww21.size hww21
  replace fr1 := fr1.step hbw22
  replace fr0 := fr0.step hbw22
  replace fg1 := fg1.step hbw22
  replace fg0 := fg0.step hbw22
  replace fs0 := fs0.step hbw22
  replace bxP0 := bxP0.below hbw22 bxP0.lt
  replace bxr0 := bxr0.below hbw22 bxr0.lt
  replace bxg0 := bxg0.below hbw22 bxg0.lt
  have fh0 := Far.refl mh.heap.size w22
  clear os0 fs0
  have qP00 : w22.cell? ⟨w.heap.size, 0, none⟩ = some (.slice A0a n0a c0a) := bxP0.cell 0
  have pP00 : ∀ o, (w22.alloc o).cell? ⟨w.heap.size, 0, none⟩ = some (.slice A0a n0a c0a) := fun o => keepA qP00
  have rP00 : w.heap.size < w22.heap.size := bxP0.lt
  have qP01 : w22.cell? ⟨w.heap.size, 1, none⟩ = some (.slice A0b n0b c0b) := bxP0.cell 1
  have pP01 : ∀ o, (w22.alloc o).cell? ⟨w.heap.size, 1, none⟩ = some (.slice A0b n0b c0b) := fun o => keepA qP01
  have rP01 : w.heap.size < w22.heap.size := bxP0.lt
  have qP02 : w22.cell? ⟨w.heap.size, 2, none⟩ = some (.slice A0c n0c c0c) := bxP0.cell 2
  have pP02 : ∀ o, (w22.alloc o).cell? ⟨w.heap.size, 2, none⟩ = some (.slice A0c n0c c0c) := fun o => keepA qP02
  have rP02 : w.heap.size < w22.heap.size := bxP0.lt
  have qr00 : w22.cell? ⟨w4.heap.size, 0, none⟩ = some (.slice Ar0a (restG z0 who).1.length cr0a) := bxr0.cell 0
  have pr00 : ∀ o, (w22.alloc o).cell? ⟨w4.heap.size, 0, none⟩ = some (.slice Ar0a (restG z0 who).1.length cr0a) := fun o => keepA qr00
  have rr00 : w4.heap.size < w22.heap.size := bxr0.lt
  have qr01 : w22.cell? ⟨w4.heap.size, 1, none⟩ = some (.slice Ar0b (restG z0 who).2.1.length cr0b) := bxr0.cell 1
  have pr01 : ∀ o, (w22.alloc o).cell? ⟨w4.heap.size, 1, none⟩ = some (.slice Ar0b (restG z0 who).2.1.length cr0b) := fun o => keepA qr01
  have rr01 : w4.heap.size < w22.heap.size := bxr0.lt
  have qr02 : w22.cell? ⟨w4.heap.size, 2, none⟩ = some (.slice Ar0c (restG z0 who).2.2.length cr0c) := bxr0.cell 2
  have pr02 : ∀ o, (w22.alloc o).cell? ⟨w4.heap.size, 2, none⟩ = some (.slice Ar0c (restG z0 who).2.2.length cr0c) := fun o => keepA qr02
  have rr02 : w4.heap.size < w22.heap.size := bxr0.lt
  have qg00 : w22.cell? ⟨w8.heap.size, 0, none⟩ = some (.slice Ag0a (restG z0 who).1.length cg0a) := bxg0.cell 0
  have pg00 : ∀ o, (w22.alloc o).cell? ⟨w8.heap.size, 0, none⟩ = some (.slice Ag0a (restG z0 who).1.length cg0a) := fun o => keepA qg00
  have rg00 : w8.heap.size < w22.heap.size := bxg0.lt
  have qg01 : w22.cell? ⟨w8.heap.size, 1, none⟩ = some (.slice Ag0b (restG z0 who).2.1.length cg0b) := bxg0.cell 1
  have pg01 : ∀ o, (w22.alloc o).cell? ⟨w8.heap.size, 1, none⟩ = some (.slice Ag0b (restG z0 who).2.1.length cg0b) := fun o => keepA qg01
  have rg01 : w8.heap.size < w22.heap.size := bxg0.lt
  have qg02 : w22.cell? ⟨w8.heap.size, 2, none⟩ = some (.slice Ag0c (restG z0 who).2.2.length cg0c) := bxg0.cell 2
  have pg02 : ∀ o, (w22.alloc o).cell? ⟨w8.heap.size, 2, none⟩ = some (.slice Ag0c (restG z0 who).2.2.length cg0c) := fun o => keepA qg02
  have rg02 : w8.heap.size < w22.heap.size := bxg0.lt
  go_wp2_with fail
  clear qP00 pP00 rP00 qP01 pP01 rP01 qP02 pP02 rP02 qr00 pr00 rr00 qr01 pr01 rr01 qr02 pr02 rr02 qg00 pg00 rg00 qg01 pg01 rg01 qg02 pg02 rg02
  have hww23 : Below w.heap.size w (w22.alloc (.cells #[.slice Ah0a (restG z0 who).1.length ch0a, .slice Ah0b (restG z0 who).2.1.length ch0b, .slice Ah0c (restG z0 who).2.2.length ch0c] 33)) := below_alloc (Nat.le_refl _) hww22
  have zw23 : w22.heap.size + 1 = (w22.alloc (.cells #[.slice Ah0a (restG z0 who).1.length ch0a, .slice Ah0b (restG z0 who).2.1.length ch0b, .slice Ah0c (restG z0 who).2.2.length ch0c] 33)).heap.size := by simp
  replace fr1 := fr1.step (below_alloc (o := (.cells #[.slice Ah0a (restG z0 who).1.length ch0a, .slice Ah0b (restG z0 who).2.1.length ch0b, .slice Ah0c (restG z0 who).2.2.length ch0c] 33)) (Nat.le_refl _) (Below.refl _ _))
  replace fr0 := fr0.step (below_alloc (o := (.cells #[.slice Ah0a (restG z0 who).1.length ch0a, .slice Ah0b (restG z0 who).2.1.length ch0b, .slice Ah0c (restG z0 who).2.2.length ch0c] 33)) (Nat.le_refl _) (Below.refl _ _))
  replace fg1 := fg1.step (below_alloc (o := (.cells #[.slice Ah0a (restG z0 who).1.length ch0a, .slice Ah0b (restG z0 who).2.1.length ch0b, .slice Ah0c (restG z0 who).2.2.length ch0c] 33)) (Nat.le_refl _) (Below.refl _ _))
  replace fg0 := fg0.step (below_alloc (o := (.cells #[.slice Ah0a (restG z0 who).1.length ch0a, .slice Ah0b (restG z0 who).2.1.length ch0b, .slice Ah0c (restG z0 who).2.2.length ch0c] 33)) (Nat.le_refl _) (Below.refl _ _))
  replace fh1 := fh1.step (below_alloc (o := (.cells #[.slice Ah0a (restG z0 who).1.length ch0a, .slice Ah0b (restG z0 who).2.1.length ch0b, .slice Ah0c (restG z0 who).2.2.length ch0c] 33)) (Nat.le_refl _) (Below.refl _ _))
  replace fh0 := fh0.step (below_alloc (o := (.cells #[.slice Ah0a (restG z0 who).1.length ch0a, .slice Ah0b (restG z0 who).2.1.length ch0b, .slice Ah0c (restG z0 who).2.2.length ch0c] 33)) (Nat.le_refl _) (Below.refl _ _))
  replace bxP0 := bxP0.alloc (.cells #[.slice Ah0a (restG z0 who).1.length ch0a, .slice Ah0b (restG z0 who).2.1.length ch0b, .slice Ah0c (restG z0 who).2.2.length ch0c] 33)
  replace bxr0 := bxr0.alloc (.cells #[.slice Ah0a (restG z0 who).1.length ch0a, .slice Ah0b (restG z0 who).2.1.length ch0b, .slice Ah0c (restG z0 who).2.2.length ch0c] 33)
  replace bxg0 := bxg0.alloc (.cells #[.slice Ah0a (restG z0 who).1.length ch0a, .slice Ah0b (restG z0 who).2.1.length ch0b, .slice Ah0c (restG z0 who).2.2.length ch0c] 33)
  have bxh0 := Box.new w22 33 #[.slice Ah0a (restG z0 who).1.length ch0a, .slice Ah0b (restG z0 who).2.1.length ch0b, .slice Ah0c (restG z0 who).2.2.length ch0c]
  generalize (w22.alloc (.cells #[.slice Ah0a (restG z0 who).1.length ch0a, .slice Ah0b (restG z0 who).2.1.length ch0b, .slice Ah0c (restG z0 who).2.2.length ch0c] 33)) = w23 at hww23 zw23 fr1 fr0 fg1 fg0 fh1 fh0 bxP0 bxr0 bxg0 bxh0 ⊢
  refine (eqParity _ _ _ _ _ _ _ _ _ _ (Nat.le_refl _) (oh0.hold fh0).reads (or0.hold fr0).reads).mono ?_; rintro e w24 ⟨rfl, hbw24⟩
  have zw24 := hbw24.size
  have hww24 := below_then hbw24 hww23.size hww23
  replace fr1 := fr1.step hbw24
  replace fr0 := fr0.step hbw24
  replace fg1 := fg1.step hbw24
  replace fg0 := fg0.step hbw24
  replace fh1 := fh1.step hbw24
  replace fh0 := fh0.step hbw24
  replace bxP0 := bxP0.below hbw24 bxP0.lt
  replace bxr0 := bxr0.below hbw24 bxr0.lt
  replace bxg0 := bxg0.below hbw24 bxg0.lt
  replace bxh0 := bxh0.below hbw24 bxh0.lt
  rw [eqPar_self]
  have qP00 : w24.cell? ⟨w.heap.size, 0, none⟩ = some (.slice A0a n0a c0a) := bxP0.cell 0
  have pP00 : ∀ o, (w24.alloc o).cell? ⟨w.heap.size, 0, none⟩ = some (.slice A0a n0a c0a) := fun o => keepA qP00
  have rP00 : w.heap.size < w24.heap.size := bxP0.lt
  have qP01 : w24.cell? ⟨w.heap.size, 1, none⟩ = some (.slice A0b n0b c0b) := bxP0.cell 1
  have pP01 : ∀ o, (w24.alloc o).cell? ⟨w.heap.size, 1, none⟩ = some (.slice A0b n0b c0b) := fun o => keepA qP01
  have rP01 : w.heap.size < w24.heap.size := bxP0.lt
  have qP02 : w24.cell? ⟨w.heap.size, 2, none⟩ = some (.slice A0c n0c c0c) := bxP0.cell 2
  have pP02 : ∀ o, (w24.alloc o).cell? ⟨w.heap.size, 2, none⟩ = some (.slice A0c n0c c0c) := fun o => keepA qP02
  have rP02 : w.heap.size < w24.heap.size := bxP0.lt
  have qr00 : w24.cell? ⟨w4.heap.size, 0, none⟩ = some (.slice Ar0a (restG z0 who).1.length cr0a) := bxr0.cell 0
  have pr00 : ∀ o, (w24.alloc o).cell? ⟨w4.heap.size, 0, none⟩ = some (.slice Ar0a (restG z0 who).1.length cr0a) := fun o => keepA qr00
  have rr00 : w4.heap.size < w24.heap.size := bxr0.lt
  have qr01 : w24.cell? ⟨w4.heap.size, 1, none⟩ = some (.slice Ar0b (restG z0 who).2.1.length cr0b) := bxr0.cell 1
  have pr01 : ∀ o, (w24.alloc o).cell? ⟨w4.heap.size, 1, none⟩ = some (.slice Ar0b (restG z0 who).2.1.length cr0b) := fun o => keepA qr01
  have rr01 : w4.heap.size < w24.heap.size := bxr0.lt
  have qr02 : w24.cell? ⟨w4.heap.size, 2, none⟩ = some (.slice Ar0c (restG z0 who).2.2.length cr0c) := bxr0.cell 2
  have pr02 : ∀ o, (w24.alloc o).cell? ⟨w4.heap.size, 2, none⟩ = some (.slice Ar0c (restG z0 who).2.2.length cr0c) := fun o => keepA qr02
  have rr02 : w4.heap.size < w24.heap.size := bxr0.lt
  have qg00 : w24.cell? ⟨w8.heap.size, 0, none⟩ = some (.slice Ag0a (restG z0 who).1.length cg0a) := bxg0.cell 0
  have pg00 : ∀ o, (w24.alloc o).cell? ⟨w8.heap.size, 0, none⟩ = some (.slice Ag0a (restG z0 who).1.length cg0a) := fun o => keepA qg00
  have rg00 : w8.heap.size < w24.heap.size := bxg0.lt
  have qg01 : w24.cell? ⟨w8.heap.size, 1, none⟩ = some (.slice Ag0b (restG z0 who).2.1.length cg0b) := bxg0.cell 1
  have pg01 : ∀ o, (w24.alloc o).cell? ⟨w8.heap.size, 1, none⟩ = some (.slice Ag0b (restG z0 who).2.1.length cg0b) := fun o => keepA qg01
  have rg01 : w8.heap.size < w24.heap.size := bxg0.lt
  have qg02 : w24.cell? ⟨w8.heap.size, 2, none⟩ = some (.slice Ag0c (restG z0 who).2.2.length cg0c) := bxg0.cell 2
  have pg02 : ∀ o, (w24.alloc o).cell? ⟨w8.heap.size, 2, none⟩ = some (.slice Ag0c (restG z0 who).2.2.length cg0c) := fun o => keepA qg02
  have rg02 : w8.heap.size < w24.heap.size := bxg0.lt
  have qh00 : w24.cell? ⟨w22.heap.size, 0, none⟩ = some (.slice Ah0a (restG z0 who).1.length ch0a) := bxh0.cell 0
  have ph00 : ∀ o, (w24.alloc o).cell? ⟨w22.heap.size, 0, none⟩ = some (.slice Ah0a (restG z0 who).1.length ch0a) := fun o => keepA qh00
  have rh00 : w22.heap.size < w24.heap.size := bxh0.lt
  have qh01 : w24.cell? ⟨w22.heap.size, 1, none⟩ = some (.slice Ah0b (restG z0 who).2.1.length ch0b) := bxh0.cell 1
  have ph01 : ∀ o, (w24.alloc o).cell? ⟨w22.heap.size, 1, none⟩ = some (.slice Ah0b (restG z0 who).2.1.length ch0b) := fun o => keepA qh01
  have rh01 : w22.heap.size < w24.heap.size := bxh0.lt
  have qh02 : w24.cell? ⟨w22.heap.size, 2, none⟩ = some (.slice Ah0c (restG z0 who).2.2.length ch0c) := bxh0.cell 2
  have ph02 : ∀ o, (w24.alloc o).cell? ⟨w22.heap.size, 2, none⟩ = some (.slice Ah0c (restG z0 who).2.2.length ch0c) := fun o => keepA qh02
  have rh02 : w22.heap.size < w24.heap.size := bxh0.lt
  go_wp2_with fail
  clear qP00 pP00 rP00 qP01 pP01 rP01 qP02 pP02 rP02 qr00 pr00 rr00 qr01 pr01 rr01 qr02 pr02 rr02 qg00 pg00 rg00 qg01 pg01 rg01 qg02 pg02 rg02 qh00 ph00 rh00 qh01 ph01 rh01 qh02 ph02 rh02
  refine (eqInts _ _ _ _ _ _ _ _ _ (oh1.hold fh1).reads (or1.hold fr1).reads).mono ?_; rintro e w25 ⟨rfl, hqtw25⟩
  have hbw25 := below_qt hqtw25 (Below.refl w24.heap.size w24)
  have zw25 := hbw25.size
  have hww25 := below_then hbw25 hww24.size hww24
  replace fr1 := fr1.step hbw25
  replace fr0 := fr0.step hbw25
  replace fg1 := fg1.step hbw25
  replace fg0 := fg0.step hbw25
  replace fh1 := fh1.step hbw25
  replace fh0 := fh0.step hbw25
  replace bxP0 := bxP0.below hbw25 bxP0.lt
  replace bxr0 := bxr0.below hbw25 bxr0.lt
  replace bxg0 := bxg0.below hbw25 bxg0.lt
  replace bxh0 := bxh0.below hbw25 bxh0.lt
  rw [eqL_self]
  have qP00 : w25.cell? ⟨w.heap.size, 0, none⟩ = some (.slice A0a n0a c0a) := bxP0.cell 0
  have pP00 : ∀ o, (w25.alloc o).cell? ⟨w.heap.size, 0, none⟩ = some (.slice A0a n0a c0a) := fun o => keepA qP00
  have rP00 : w.heap.size < w25.heap.size := bxP0.lt
  have qP01 : w25.cell? ⟨w.heap.size, 1, none⟩ = some (.slice A0b n0b c0b) := bxP0.cell 1
  have pP01 : ∀ o, (w25.alloc o).cell? ⟨w.heap.size, 1, none⟩ = some (.slice A0b n0b c0b) := fun o => keepA qP01
  have rP01 : w.heap.size < w25.heap.size := bxP0.lt
  have qP02 : w25.cell? ⟨w.heap.size, 2, none⟩ = some (.slice A0c n0c c0c) := bxP0.cell 2
  have pP02 : ∀ o, (w25.alloc o).cell? ⟨w.heap.size, 2, none⟩ = some (.slice A0c n0c c0c) := fun o => keepA qP02
  have rP02 : w.heap.size < w25.heap.size := bxP0.lt
  have qr00 : w25.cell? ⟨w4.heap.size, 0, none⟩ = some (.slice Ar0a (restG z0 who).1.length cr0a) := bxr0.cell 0
  have pr00 : ∀ o, (w25.alloc o).cell? ⟨w4.heap.size, 0, none⟩ = some (.slice Ar0a (restG z0 who).1.length cr0a) := fun o => keepA qr00
  have rr00 : w4.heap.size < w25.heap.size := bxr0.lt
  have qr01 : w25.cell? ⟨w4.heap.size, 1, none⟩ = some (.slice Ar0b (restG z0 who).2.1.length cr0b) := bxr0.cell 1
  have pr01 : ∀ o, (w25.alloc o).cell? ⟨w4.heap.size, 1, none⟩ = some (.slice Ar0b (restG z0 who).2.1.length cr0b) := fun o => keepA qr01
  have rr01 : w4.heap.size < w25.heap.size := bxr0.lt
  have qr02 : w25.cell? ⟨w4.heap.size, 2, none⟩ = some (.slice Ar0c (restG z0 who).2.2.length cr0c) := bxr0.cell 2
  have pr02 : ∀ o, (w25.alloc o).cell? ⟨w4.heap.size, 2, none⟩ = some (.slice Ar0c (restG z0 who).2.2.length cr0c) := fun o => keepA qr02
  have rr02 : w4.heap.size < w25.heap.size := bxr0.lt
  have qg00 : w25.cell? ⟨w8.heap.size, 0, none⟩ = some (.slice Ag0a (restG z0 who).1.length cg0a) := bxg0.cell 0
  have pg00 : ∀ o, (w25.alloc o).cell? ⟨w8.heap.size, 0, none⟩ = some (.slice Ag0a (restG z0 who).1.length cg0a) := fun o => keepA qg00
  have rg00 : w8.heap.size < w25.heap.size := bxg0.lt
  have qg01 : w25.cell? ⟨w8.heap.size, 1, none⟩ = some (.slice Ag0b (restG z0 who).2.1.length cg0b) := bxg0.cell 1
  have pg01 : ∀ o, (w25.alloc o).cell? ⟨w8.heap.size, 1, none⟩ = some (.slice Ag0b (restG z0 who).2.1.length cg0b) := fun o => keepA qg01
  have rg01 : w8.heap.size < w25.heap.size := bxg0.lt
  have qg02 : w25.cell? ⟨w8.heap.size, 2, none⟩ = some (.slice Ag0c (restG z0 who).2.2.length cg0c) := bxg0.cell 2
  have pg02 : ∀ o, (w25.alloc o).cell? ⟨w8.heap.size, 2, none⟩ = some (.slice Ag0c (restG z0 who).2.2.length cg0c) := fun o => keepA qg02
  have rg02 : w8.heap.size < w25.heap.size := bxg0.lt
  have qh00 : w25.cell? ⟨w22.heap.size, 0, none⟩ = some (.slice Ah0a (restG z0 who).1.length ch0a) := bxh0.cell 0
  have ph00 : ∀ o, (w25.alloc o).cell? ⟨w22.heap.size, 0, none⟩ = some (.slice Ah0a (restG z0 who).1.length ch0a) := fun o => keepA qh00
  have rh00 : w22.heap.size < w25.heap.size := bxh0.lt
  have qh01 : w25.cell? ⟨w22.heap.size, 1, none⟩ = some (.slice Ah0b (restG z0 who).2.1.length ch0b) := bxh0.cell 1
  have ph01 : ∀ o, (w25.alloc o).cell? ⟨w22.heap.size, 1, none⟩ = some (.slice Ah0b (restG z0 who).2.1.length ch0b) := fun o => keepA qh01
  have rh01 : w22.heap.size < w25.heap.size := bxh0.lt
  have qh02 : w25.cell? ⟨w22.heap.size, 2, none⟩ = some (.slice Ah0c (restG z0 who).2.2.length ch0c) := bxh0.cell 2
  have ph02 : ∀ o, (w25.alloc o).cell? ⟨w22.heap.size, 2, none⟩ = some (.slice Ah0c (restG z0 who).2.2.length ch0c) := fun o => keepA qh02
  have rh02 : w22.heap.size < w25.heap.size := bxh0.lt
  go_wp2_with fail
  clear qP00 pP00 rP00 qP01 pP01 rP01 qP02 pP02 rP02 qr00 pr00 rr00 qr01 pr01 rr01 qr02 pr02 rr02 qg00 pg00 rg00 qg01 pg01 rg01 qg02 pg02 rg02 qh00 ph00 rh00 qh01 ph01 rh01 qh02 ph02 rh02
  refine (heldParity _ _ _ (restG z0 who) 1 _ _ (Nat.le_refl _) (og0.hold fg0).reads (by omega) (by omega)).mono ?_; rintro e w26 ⟨rfl, hbw26⟩
  have zw26 := hbw26.size
  have hww26 := below_then hbw26 hww25.size hww25
  replace fr1 := fr1.step hbw26
  replace fr0 := fr0.step hbw26
  replace fg1 := fg1.step hbw26
  replace fg0 := fg0.step hbw26
  replace fh1 := fh1.step hbw26
  replace fh0 := fh0.step hbw26
  replace bxP0 := bxP0.below hbw26 bxP0.lt
  replace bxr0 := bxr0.below hbw26 bxr0.lt
  replace bxg0 := bxg0.below hbw26 bxg0.lt
  replace bxh0 := bxh0.below hbw26 bxh0.lt
  have qP00 : w26.cell? ⟨w.heap.size, 0, none⟩ = some (.slice A0a n0a c0a) := bxP0.cell 0
  have pP00 : ∀ o, (w26.alloc o).cell? ⟨w.heap.size, 0, none⟩ = some (.slice A0a n0a c0a) := fun o => keepA qP00
  have rP00 : w.heap.size < w26.heap.size := bxP0.lt
  have qP01 : w26.cell? ⟨w.heap.size, 1, none⟩ = some (.slice A0b n0b c0b) := bxP0.cell 1
  have pP01 : ∀ o, (w26.alloc o).cell? ⟨w.heap.size, 1, none⟩ = some (.slice A0b n0b c0b) := fun o => keepA qP01
  have rP01 : w.heap.size < w26.heap.size := bxP0.lt
  have qP02 : w26.cell? ⟨w.heap.size, 2, none⟩ = some (.slice A0c n0c c0c) := bxP0.cell 2
  have pP02 : ∀ o, (w26.alloc o).cell? ⟨w.heap.size, 2, none⟩ = some (.slice A0c n0c c0c) := fun o => keepA qP02
  have rP02 : w.heap.size < w26.heap.size := bxP0.lt
  have qr00 : w26.cell? ⟨w4.heap.size, 0, none⟩ = some (.slice Ar0a (restG z0 who).1.length cr0a) := bxr0.cell 0
  have pr00 : ∀ o, (w26.alloc o).cell? ⟨w4.heap.size, 0, none⟩ = some (.slice Ar0a (restG z0 who).1.length cr0a) := fun o => keepA qr00
  have rr00 : w4.heap.size < w26.heap.size := bxr0.lt
  have qr01 : w26.cell? ⟨w4.heap.size, 1, none⟩ = some (.slice Ar0b (restG z0 who).2.1.length cr0b) := bxr0.cell 1
  have pr01 : ∀ o, (w26.alloc o).cell? ⟨w4.heap.size, 1, none⟩ = some (.slice Ar0b (restG z0 who).2.1.length cr0b) := fun o => keepA qr01
  have rr01 : w4.heap.size < w26.heap.size := bxr0.lt
  have qr02 : w26.cell? ⟨w4.heap.size, 2, none⟩ = some (.slice Ar0c (restG z0 who).2.2.length cr0c) := bxr0.cell 2
  have pr02 : ∀ o, (w26.alloc o).cell? ⟨w4.heap.size, 2, none⟩ = some (.slice Ar0c (restG z0 who).2.2.length cr0c) := fun o => keepA qr02
  have rr02 : w4.heap.size < w26.heap.size := bxr0.lt
  have qg00 : w26.cell? ⟨w8.heap.size, 0, none⟩ = some (.slice Ag0a (restG z0 who).1.length cg0a) := bxg0.cell 0
  have pg00 : ∀ o, (w26.alloc o).cell? ⟨w8.heap.size, 0, none⟩ = some (.slice Ag0a (restG z0 who).1.length cg0a) := fun o => keepA qg00
  have rg00 : w8.heap.size < w26.heap.size := bxg0.lt
  have qg01 : w26.cell? ⟨w8.heap.size, 1, none⟩ = some (.slice Ag0b (restG z0 who).2.1.length cg0b) := bxg0.cell 1
  have pg01 : ∀ o, (w26.alloc o).cell? ⟨w8.heap.size, 1, none⟩ = some (.slice Ag0b (restG z0 who).2.1.length cg0b) := fun o => keepA qg01
  have rg01 : w8.heap.size < w26.heap.size := bxg0.lt
  have qg02 : w26.cell? ⟨w8.heap.size, 2, none⟩ = some (.slice Ag0c (restG z0 who).2.2.length cg0c) := bxg0.cell 2
  have pg02 : ∀ o, (w26.alloc o).cell? ⟨w8.heap.size, 2, none⟩ = some (.slice Ag0c (restG z0 who).2.2.length cg0c) := fun o => keepA qg02
  have rg02 : w8.heap.size < w26.heap.size := bxg0.lt
  have qh00 : w26.cell? ⟨w22.heap.size, 0, none⟩ = some (.slice Ah0a (restG z0 who).1.length ch0a) := bxh0.cell 0
  have ph00 : ∀ o, (w26.alloc o).cell? ⟨w22.heap.size, 0, none⟩ = some (.slice Ah0a (restG z0 who).1.length ch0a) := fun o => keepA qh00
  have rh00 : w22.heap.size < w26.heap.size := bxh0.lt
  have qh01 : w26.cell? ⟨w22.heap.size, 1, none⟩ = some (.slice Ah0b (restG z0 who).2.1.length ch0b) := bxh0.cell 1
  have ph01 : ∀ o, (w26.alloc o).cell? ⟨w22.heap.size, 1, none⟩ = some (.slice Ah0b (restG z0 who).2.1.length ch0b) := fun o => keepA qh01
  have rh01 : w22.heap.size < w26.heap.size := bxh0.lt
  have qh02 : w26.cell? ⟨w22.heap.size, 2, none⟩ = some (.slice Ah0c (restG z0 who).2.2.length ch0c) := bxh0.cell 2
  have ph02 : ∀ o, (w26.alloc o).cell? ⟨w22.heap.size, 2, none⟩ = some (.slice Ah0c (restG z0 who).2.2.length ch0c) := fun o => keepA qh02
  have rh02 : w22.heap.size < w26.heap.size := bxh0.lt
  go_wp2_with fail
  clear qP00 pP00 rP00 qP01 pP01 rP01 qP02 pP02 rP02 qr00 pr00 rr00 qr01 pr01 rr01 qr02 pr02 rr02 qg00 pg00 rg00 qg01 pg01 rg01 qg02 pg02 rg02 qh00 ph00 rh00 qh01 ph01 rh01 qh02 ph02 rh02
  refine (heldInts _ _ _ (1 + (ptot (restG z0 who) : Int)) _ (og1.hold fg1).reads (by omega) (by omega)).mono ?_; rintro e w27 ⟨rfl, hqtw27⟩
  have hbw27 := below_qt hqtw27 (Below.refl w26.heap.size w26)
  have zw27 := hbw27.size
  have hww27 := below_then hbw27 hww26.size hww26
  replace fr1 := fr1.step hbw27
  replace fr0 := fr0.step hbw27
  replace fg1 := fg1.step hbw27
  replace fg0 := fg0.step hbw27
  replace fh1 := fh1.step hbw27
  replace fh0 := fh0.step hbw27
  replace bxP0 := bxP0.below hbw27 bxP0.lt
  replace bxr0 := bxr0.below hbw27 bxr0.lt
  replace bxg0 := bxg0.below hbw27 bxg0.lt
  replace bxh0 := bxh0.below hbw27 bxh0.lt
  have qP00 : w27.cell? ⟨w.heap.size, 0, none⟩ = some (.slice A0a n0a c0a) := bxP0.cell 0
  have qP01 : w27.cell? ⟨w.heap.size, 1, none⟩ = some (.slice A0b n0b c0b) := bxP0.cell 1
  have qP02 : w27.cell? ⟨w.heap.size, 2, none⟩ = some (.slice A0c n0c c0c) := bxP0.cell 2
  have qr00 : w27.cell? ⟨w4.heap.size, 0, none⟩ = some (.slice Ar0a (restG z0 who).1.length cr0a) := bxr0.cell 0
  have qr01 : w27.cell? ⟨w4.heap.size, 1, none⟩ = some (.slice Ar0b (restG z0 who).2.1.length cr0b) := bxr0.cell 1
  have qr02 : w27.cell? ⟨w4.heap.size, 2, none⟩ = some (.slice Ar0c (restG z0 who).2.2.length cr0c) := bxr0.cell 2
  have qg00 : w27.cell? ⟨w8.heap.size, 0, none⟩ = some (.slice Ag0a (restG z0 who).1.length cg0a) := bxg0.cell 0
  have qg01 : w27.cell? ⟨w8.heap.size, 1, none⟩ = some (.slice Ag0b (restG z0 who).2.1.length cg0b) := bxg0.cell 1
  have qg02 : w27.cell? ⟨w8.heap.size, 2, none⟩ = some (.slice Ag0c (restG z0 who).2.2.length cg0c) := bxg0.cell 2
  have qh00 : w27.cell? ⟨w22.heap.size, 0, none⟩ = some (.slice Ah0a (restG z0 who).1.length ch0a) := bxh0.cell 0
  have qh01 : w27.cell? ⟨w22.heap.size, 1, none⟩ = some (.slice Ah0b (restG z0 who).2.1.length ch0b) := bxh0.cell 1
  have qh02 : w27.cell? ⟨w22.heap.size, 2, none⟩ = some (.slice Ah0c (restG z0 who).2.2.length ch0c) := bxh0.cell 2
  go_wp2
  go_ret
  exact ⟨rfl, hww27⟩

theorem own : ownKnob Try.prog.godebug = none := by kernel_rfl
theorem laidOut : laidOutB Try.prog = true := by kernel_rfl
set_option maxRecDepth 100000 in
theorem lifted (os : Os) (started : os.Started) (H : Type) (enc : TypeId × Value → H) :
    ReturnsInHanded {} Try.checked os 4 .any (Rows.fnExactRestOfSpec.pre6 enc Try.prog Try.f4 Rows.fnExactRestOfRow.domain false) (Rows.fnExactRestOfSpec.post enc Try.prog Try.f4 false true false false) := by
  refine returnsInHanded_of_change (C := Try.checked) own started (by kernel_rfl) Try.func4
    (ChangeSpec.witness6 (enc := enc) (C := Try.checked) false ⟨#[], #[.agg #[.slice none 0 0, .slice none 0 0, .slice none 0 0], .int .i64 0], []⟩ 8 (by kernel_rfl) (by kernel_rfl) (by kernel_rfl) (by kernel_rfl)) ?_
  intro W base args ds gs before hval0 hW hcnd _
  have hval : ∀ (j : Nat) t v, Try.f4.params[j]? = some t → args[j]? = some v → Value.okWide Try.prog W .any base t v := hval0
  have hW' := hW
  obtain ⟨p, q, hA0, hV, rfl, hfz, hnd⟩ := hW
  have hA : DataW.TrodAll enc Try.prog W 0 (fun _ => true) true Try.f4.params.toList args.toList ds p := hA0
  rw [Try.params4] at hA hval
  obtain ⟨v0, vs0, d0, ds0, p0, q0, hargs, rfl, rfl, h0, r0⟩ := trodAll_cons hA
  obtain ⟨v1, vs1, d1, ds1, p1, q1, rfl, rfl, rfl, h1, r1⟩ := trodAll_cons r0
  obtain ⟨rfl, rfl, rfl⟩ := trodAll_nil r1
  obtain rfl : args = #[v0, v1] := by cases args; simp_all
  obtain ⟨rfl, rfl⟩ := trodVars_none hV
  have k0 := h0
  have lt0 : ∀ x ∈ p0, x.block < W.heap.size := by obtain ⟨m, hm⟩ := k0; exact DataW.trod_lt m _ _ _ hm
  obtain ⟨c0, e0, g0, y0, z0, u0, m0, l0, rfl, hy0, hz0, hu0⟩ := open_game Try.underlying50 Try.underlying48 ⟨by kernel_rfl, rfl, by kernel_rfl, rfl, by kernel_rfl, rfl, by kernel_rfl, rfl, by kernel_rfl⟩ (hval 0 50 v0 rfl rfl) h0
  obtain ⟨A0a, n0a, c0a, x0a, rfl, r0a⟩ := ri_of_trod Try.underlying27 Try.underlying2 (by kernel_rfl) hy0
  obtain ⟨A0b, n0b, c0b, x0b, rfl, r0b⟩ := rii_of_trod Try.underlying28 Try.underlying27 Try.underlying2 (by kernel_rfl) (by kernel_rfl) hz0
  obtain ⟨A0c, n0c, c0c, x0c, rfl, r0c⟩ := ri_of_trod Try.underlying27 Try.underlying2 (by kernel_rfl) hu0
  obtain ⟨a1, rfl, rfl, rfl, w1⟩ := open_int Try.underlying2 (hval 1 2 v1 rfl rfl) h1
  clear hA0 hval0
  refine (walk _ _ _ _ _ _ _ _ _ (x0a, x0b, x0c) a1 W (RPv.of r0a r0b r0c)).mono fun e W' ⟨he, bel⟩ => ?_
  subst he
  exact ⟨_, rfl, _, _, _, [], _, [], hW', trodAll_mk1 (shut_bool Try.underlying4 _), (trodAll_cons_mk (Below.trod laidOut (by kernel_rfl) (of_decide_eq_true (by kernel_rfl)) k0 bel lt0) (trodAll_cons_mk (shut_int Try.underlying2 w1) trodAll_mk0)), rfl, bel.frame _, fun h => by cases h⟩
theorem over : Rows.fnExactRestOfRow.holds Try.pinned (OpenSpec.ofChange Rows.fnExactRestOfSpec) :=
  OpenClaim.holds_of_wide 4 Try.f4 rfl rfl rfl rfl rfl rfl rfl ⟨rfl, rfl, rfl, rfl, rfl⟩ rfl rfl rfl rfl rfl (by kernel_rfl) Try.func4 (by kernel_rfl)
    (of_decide_eq_true (by kernel_rfl)) (by unfold Func.isWrapper; first | (rw [if_pos (by decide +kernel)]; kernel_rfl) | (rw [if_neg (by decide +kernel)]; exact ⟨rfl, rfl⟩))
    (fun os started H enc _ => lifted os started H enc)
/-- the statement -/
theorem proved : Rows.FnExactRestOfSaid := over
end Go.Proofs.Ytlmhhnplacejkaa.fnExactRestOf

