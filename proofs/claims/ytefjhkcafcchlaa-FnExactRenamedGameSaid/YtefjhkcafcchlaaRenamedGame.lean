/- FnExactRenamedGame: for every input the law returns true, and each argument reads as it read before. No condition. -/
import Derived.Test.YtefjhkcafcchlaaRen3
import Derived.Test.YtefjhkcafcchlaaParL
import Derived.Test.YtefjhkcafcchlaaOpenG
import Derived.Test.YtefjhkcafcchlaaOpen
import Derived.Deep.RegionHeld3
namespace Go.Proofs.Ytefjhkcafcchlaa.fnExactRenamedGame
open Go.ChangeShapes Go.WideShapes Go.ChangeAt Go.RowKit

set_option maxRecDepth 100000 in
set_option maxHeartbeats 1600000 in
theorem walk (A0a A0b A0c : Option Addr) (n0a c0a n0b c0b n0c c0c : Nat) (z0 : ParD) (A1 : Option Addr) (n1 c1 : Nat) (z1 : List Int) (w : World) (ha0 : RPv w (.slice A0a n0a c0a) (.slice A0b n0b c0b) (.slice A0c n0c c0c) z0) (ha1 : RI w A1 n1 c1 z1) :
    Calls Try.prog 10 #[.agg #[.slice A0a n0a c0a, .slice A0b n0b c0b, .slice A0c n0c c0c], .slice A1 n1 c1] w fun e w' => e = .returned (.bool true) ∧ Below w.heap.size w w' := by
  have b1 := ha1.cap; have t1 := ha1.top
  have HL1 := Lib.hid ha1.len
  by_cases hm1 : 1048576 < n1
  · go_enter Try.func10, Try.ntmps10
    go_wp2
    go_ret
    exact ⟨rfl, by repeat (first | exact Below.refl _ _ | refine below_alloc (Nat.le_refl _) ?_)⟩
  replace hm1 : n1 ≤ 1048576 := by omega
  by_cases hy0 : ¬ (((szPar z0) : Nat) : Int) ≤ 1048576
  · have E0 := Lib.hid (szF_no hy0)
    have hww := Below.refl w.heap.size w
    go_enter Try.func10, Try.ntmps10
    go_wp2_with fail
    have hww1 : Below w.heap.size w (w.alloc (.cells #[.slice A0a n0a c0a, .slice A0b n0b c0b, .slice A0c n0c c0c] 62)) := below_alloc (Nat.le_refl _) hww
    have zw1 : w.heap.size + 1 = (w.alloc (.cells #[.slice A0a n0a c0a, .slice A0b n0b c0b, .slice A0c n0c c0c] 62)).heap.size := by simp
    have bxP0 := Box.new w 62 #[.slice A0a n0a c0a, .slice A0b n0b c0b, .slice A0c n0c c0c]
    generalize (w.alloc (.cells #[.slice A0a n0a c0a, .slice A0b n0b c0b, .slice A0c n0c c0c] 62)) = w1 at hww1 zw1 bxP0 ⊢
    refine (szParity _ _ _ _ _ _ _ (Nat.le_refl _) (ha0.keep (keeps_below hww1)) (by omega) (by omega)).mono ?_; rintro e w2 ⟨rfl, hbw2⟩
    have zw2 := hbw2.size
    have hww2 := below_then hbw2 hww1.size hww1
    replace bxP0 := bxP0.below hbw2 bxP0.lt
    rw [E0.out]
    go_wp2
    go_ret
    exact ⟨rfl, hww2⟩
  have hz0 : (((szPar z0) : Nat) : Int) ≤ 1048576 := by omega
  have hm0 : (szPar z0) ≤ 1048576 := by omega
  have E0 := Lib.hid (szF_yes hz0)
  clear hy0
  have hR := ren_tot z0 z1
  have hT := ptot_sz z0
  have hne1 : ((okRen z0 z1) != (okRen z0 z1)) = false := by simp
  have hww := Below.refl w.heap.size w
  go_enter Try.func10, Try.ntmps10
  go_wp2_with fail
  have hww1 : Below w.heap.size w (w.alloc (.cells #[.slice A0a n0a c0a, .slice A0b n0b c0b, .slice A0c n0c c0c] 62)) := below_alloc (Nat.le_refl _) hww
  have zw1 : w.heap.size + 1 = (w.alloc (.cells #[.slice A0a n0a c0a, .slice A0b n0b c0b, .slice A0c n0c c0c] 62)).heap.size := by simp
  have bxP0 := Box.new w 62 #[.slice A0a n0a c0a, .slice A0b n0b c0b, .slice A0c n0c c0c]
  generalize (w.alloc (.cells #[.slice A0a n0a c0a, .slice A0b n0b c0b, .slice A0c n0c c0c] 62)) = w1 at hww1 zw1 bxP0 ⊢
  refine (szParity _ _ _ _ _ _ _ (Nat.le_refl _) (ha0.keep (keeps_below hww1)) (by omega) (by omega)).mono ?_; rintro e w2 ⟨rfl, hbw2⟩
  have zw2 := hbw2.size
  have hww2 := below_then hbw2 hww1.size hww1
  replace bxP0 := bxP0.below hbw2 bxP0.lt
  rw [E0.out]
  have qP00 : w2.cell? ⟨w.heap.size, 0, none⟩ = some (.slice A0a n0a c0a) := bxP0.cell 0
  have pP00 : ∀ o, (w2.alloc o).cell? ⟨w.heap.size, 0, none⟩ = some (.slice A0a n0a c0a) := fun o => keepA qP00
  have rP00 : w.heap.size < w2.heap.size := bxP0.lt
  have qP01 : w2.cell? ⟨w.heap.size, 1, none⟩ = some (.slice A0b n0b c0b) := bxP0.cell 1
  have pP01 : ∀ o, (w2.alloc o).cell? ⟨w.heap.size, 1, none⟩ = some (.slice A0b n0b c0b) := fun o => keepA qP01
  have rP01 : w.heap.size < w2.heap.size := bxP0.lt
  have qP02 : w2.cell? ⟨w.heap.size, 2, none⟩ = some (.slice A0c n0c c0c) := bxP0.cell 2
  have pP02 : ∀ o, (w2.alloc o).cell? ⟨w.heap.size, 2, none⟩ = some (.slice A0c n0c c0c) := fun o => keepA qP02
  have rP02 : w.heap.size < w2.heap.size := bxP0.lt
  go_wp2_with fail
  clear qP00 pP00 rP00 qP01 pP01 rP01 qP02 pP02 rP02
  refine (toParity _ _ _ _ _ _ (Nat.le_refl _) (ha0.keep (keeps_below hww2)) hm0).mono ?_; rintro e w3 ⟨vy0a, vy0b, vy0c, rfl, oy0, hbw3⟩
  obtain ⟨Ay0a, cy0a, Ay0b, cy0b, Ay0c, cy0c, rfl, rfl, rfl⟩ := oy0.form
  have zw3 := hbw3.size
  have hww3 := below_then hbw3 hww2.size hww2
  replace bxP0 := bxP0.below hbw3 bxP0.lt
  have fy0 := Far.refl w2.heap.size w3
  have qP00 : w3.cell? ⟨w.heap.size, 0, none⟩ = some (.slice A0a n0a c0a) := bxP0.cell 0
  have pP00 : ∀ o, (w3.alloc o).cell? ⟨w.heap.size, 0, none⟩ = some (.slice A0a n0a c0a) := fun o => keepA qP00
  have rP00 : w.heap.size < w3.heap.size := bxP0.lt
  have qP01 : w3.cell? ⟨w.heap.size, 1, none⟩ = some (.slice A0b n0b c0b) := bxP0.cell 1
  have pP01 : ∀ o, (w3.alloc o).cell? ⟨w.heap.size, 1, none⟩ = some (.slice A0b n0b c0b) := fun o => keepA qP01
  have rP01 : w.heap.size < w3.heap.size := bxP0.lt
  have qP02 : w3.cell? ⟨w.heap.size, 2, none⟩ = some (.slice A0c n0c c0c) := bxP0.cell 2
  have pP02 : ∀ o, (w3.alloc o).cell? ⟨w.heap.size, 2, none⟩ = some (.slice A0c n0c c0c) := fun o => keepA qP02
  have rP02 : w.heap.size < w3.heap.size := bxP0.lt
  go_wp2_with fail
  clear qP00 pP00 rP00 qP01 pP01 rP01 qP02 pP02 rP02
  refine (toInts _ _ _ _ _ _ (Nat.le_refl _) (ha1.keep (keeps_below hww3)) hm1).mono ?_; rintro e w4 ⟨vy1, rfl, oy1, hbw4⟩
  obtain ⟨Ay1, cy1, rfl⟩ := oy1.form
  have zw4 := hbw4.size
  have hww4 := below_then hbw4 hww3.size hww3
  replace fy0 := fy0.step hbw4
  replace bxP0 := bxP0.below hbw4 bxP0.lt
  have fy1 := Far.refl w3.heap.size w4
  have qP00 : w4.cell? ⟨w.heap.size, 0, none⟩ = some (.slice A0a n0a c0a) := bxP0.cell 0
  have pP00 : ∀ o, (w4.alloc o).cell? ⟨w.heap.size, 0, none⟩ = some (.slice A0a n0a c0a) := fun o => keepA qP00
  have rP00 : w.heap.size < w4.heap.size := bxP0.lt
  have qP01 : w4.cell? ⟨w.heap.size, 1, none⟩ = some (.slice A0b n0b c0b) := bxP0.cell 1
  have pP01 : ∀ o, (w4.alloc o).cell? ⟨w.heap.size, 1, none⟩ = some (.slice A0b n0b c0b) := fun o => keepA qP01
  have rP01 : w.heap.size < w4.heap.size := bxP0.lt
  have qP02 : w4.cell? ⟨w.heap.size, 2, none⟩ = some (.slice A0c n0c c0c) := bxP0.cell 2
  have pP02 : ∀ o, (w4.alloc o).cell? ⟨w.heap.size, 2, none⟩ = some (.slice A0c n0c c0c) := fun o => keepA qP02
  have rP02 : w.heap.size < w4.heap.size := bxP0.lt
  go_wp2_with fail
  clear qP00 pP00 rP00 qP01 pP01 rP01 qP02 pP02 rP02
  refine (specRenamed _ _ _ _ _ _ _ _ _ _ (Nat.le_refl _) (oy0.hold fy0).reads (oy1.hold fy1).reads).mono ?_; rintro e w5 ⟨vra, vrb, vrc, rfl, or, hbw5⟩
  obtain ⟨Ara, cra, Arb, crb, Arc, crc, rfl, rfl, rfl⟩ := or.form
  have zw5 := hbw5.size
  have hww5 := below_then hbw5 hww4.size hww4
  replace fy0 := fy0.step hbw5
  replace fy1 := fy1.step hbw5
  replace bxP0 := bxP0.below hbw5 bxP0.lt
  have fr := Far.refl w4.heap.size w5
  clear oy0 fy0
  clear oy1 fy1
  have qP00 : w5.cell? ⟨w.heap.size, 0, none⟩ = some (.slice A0a n0a c0a) := bxP0.cell 0
  have pP00 : ∀ o, (w5.alloc o).cell? ⟨w.heap.size, 0, none⟩ = some (.slice A0a n0a c0a) := fun o => keepA qP00
  have rP00 : w.heap.size < w5.heap.size := bxP0.lt
  have qP01 : w5.cell? ⟨w.heap.size, 1, none⟩ = some (.slice A0b n0b c0b) := bxP0.cell 1
  have pP01 : ∀ o, (w5.alloc o).cell? ⟨w.heap.size, 1, none⟩ = some (.slice A0b n0b c0b) := fun o => keepA qP01
  have rP01 : w.heap.size < w5.heap.size := bxP0.lt
  have qP02 : w5.cell? ⟨w.heap.size, 2, none⟩ = some (.slice A0c n0c c0c) := bxP0.cell 2
  have pP02 : ∀ o, (w5.alloc o).cell? ⟨w.heap.size, 2, none⟩ = some (.slice A0c n0c c0c) := fun o => keepA qP02
  have rP02 : w.heap.size < w5.heap.size := bxP0.lt
  go_wp2_with fail
  clear qP00 pP00 rP00 qP01 pP01 rP01 qP02 pP02 rP02
  have hww6 : Below w.heap.size w (w5.alloc (.cells #[.slice Ara (renG z0 z1).1.length cra, .slice Arb (renG z0 z1).2.1.length crb, .slice Arc (renG z0 z1).2.2.length crc] 44)) := below_alloc (Nat.le_refl _) hww5
  have zw6 : w5.heap.size + 1 = (w5.alloc (.cells #[.slice Ara (renG z0 z1).1.length cra, .slice Arb (renG z0 z1).2.1.length crb, .slice Arc (renG z0 z1).2.2.length crc] 44)).heap.size := by simp
  replace fr := fr.step (below_alloc (o := (.cells #[.slice Ara (renG z0 z1).1.length cra, .slice Arb (renG z0 z1).2.1.length crb, .slice Arc (renG z0 z1).2.2.length crc] 44)) (Nat.le_refl _) (Below.refl _ _))
  replace bxP0 := bxP0.alloc (.cells #[.slice Ara (renG z0 z1).1.length cra, .slice Arb (renG z0 z1).2.1.length crb, .slice Arc (renG z0 z1).2.2.length crc] 44)
  have bxr := Box.new w5 44 #[.slice Ara (renG z0 z1).1.length cra, .slice Arb (renG z0 z1).2.1.length crb, .slice Arc (renG z0 z1).2.2.length crc]
  generalize (w5.alloc (.cells #[.slice Ara (renG z0 z1).1.length cra, .slice Arb (renG z0 z1).2.1.length crb, .slice Arc (renG z0 z1).2.2.length crc] 44)) = w6 at hww6 zw6 fr bxP0 bxr ⊢
  refine (toParity _ _ _ _ _ _ (Nat.le_refl _) (ha0.keep (keeps_below hww6)) hm0).mono ?_; rintro e w7 ⟨vx0a, vx0b, vx0c, rfl, ox0, hbw7⟩
  obtain ⟨Ax0a, cx0a, Ax0b, cx0b, Ax0c, cx0c, rfl, rfl, rfl⟩ := ox0.form
  have zw7 := hbw7.size
  have hww7 := below_then hbw7 hww6.size hww6
  replace fr := fr.step hbw7
  replace bxP0 := bxP0.below hbw7 bxP0.lt
  replace bxr := bxr.below hbw7 bxr.lt
  have fx0 := Far.refl w6.heap.size w7
  have qP00 : w7.cell? ⟨w.heap.size, 0, none⟩ = some (.slice A0a n0a c0a) := bxP0.cell 0
  have pP00 : ∀ o, (w7.alloc o).cell? ⟨w.heap.size, 0, none⟩ = some (.slice A0a n0a c0a) := fun o => keepA qP00
  have rP00 : w.heap.size < w7.heap.size := bxP0.lt
  have qP01 : w7.cell? ⟨w.heap.size, 1, none⟩ = some (.slice A0b n0b c0b) := bxP0.cell 1
  have pP01 : ∀ o, (w7.alloc o).cell? ⟨w.heap.size, 1, none⟩ = some (.slice A0b n0b c0b) := fun o => keepA qP01
  have rP01 : w.heap.size < w7.heap.size := bxP0.lt
  have qP02 : w7.cell? ⟨w.heap.size, 2, none⟩ = some (.slice A0c n0c c0c) := bxP0.cell 2
  have pP02 : ∀ o, (w7.alloc o).cell? ⟨w.heap.size, 2, none⟩ = some (.slice A0c n0c c0c) := fun o => keepA qP02
  have rP02 : w.heap.size < w7.heap.size := bxP0.lt
  have qr0 : w7.cell? ⟨w5.heap.size, 0, none⟩ = some (.slice Ara (renG z0 z1).1.length cra) := bxr.cell 0
  have pr0 : ∀ o, (w7.alloc o).cell? ⟨w5.heap.size, 0, none⟩ = some (.slice Ara (renG z0 z1).1.length cra) := fun o => keepA qr0
  have rr0 : w5.heap.size < w7.heap.size := bxr.lt
  have qr1 : w7.cell? ⟨w5.heap.size, 1, none⟩ = some (.slice Arb (renG z0 z1).2.1.length crb) := bxr.cell 1
  have pr1 : ∀ o, (w7.alloc o).cell? ⟨w5.heap.size, 1, none⟩ = some (.slice Arb (renG z0 z1).2.1.length crb) := fun o => keepA qr1
  have rr1 : w5.heap.size < w7.heap.size := bxr.lt
  have qr2 : w7.cell? ⟨w5.heap.size, 2, none⟩ = some (.slice Arc (renG z0 z1).2.2.length crc) := bxr.cell 2
  have pr2 : ∀ o, (w7.alloc o).cell? ⟨w5.heap.size, 2, none⟩ = some (.slice Arc (renG z0 z1).2.2.length crc) := fun o => keepA qr2
  have rr2 : w5.heap.size < w7.heap.size := bxr.lt
  go_wp2_with fail
  clear qP00 pP00 rP00 qP01 pP01 rP01 qP02 pP02 rP02 qr0 pr0 rr0 qr1 pr1 rr1 qr2 pr2 rr2
  have hww8 : Below w.heap.size w (w7.alloc (.cells #[.slice Ax0a (z0).1.length cx0a, .slice Ax0b (z0).2.1.length cx0b, .slice Ax0c (z0).2.2.length cx0c] 44)) := below_alloc (Nat.le_refl _) hww7
  have zw8 : w7.heap.size + 1 = (w7.alloc (.cells #[.slice Ax0a (z0).1.length cx0a, .slice Ax0b (z0).2.1.length cx0b, .slice Ax0c (z0).2.2.length cx0c] 44)).heap.size := by simp
  replace fr := fr.step (below_alloc (o := (.cells #[.slice Ax0a (z0).1.length cx0a, .slice Ax0b (z0).2.1.length cx0b, .slice Ax0c (z0).2.2.length cx0c] 44)) (Nat.le_refl _) (Below.refl _ _))
  replace fx0 := fx0.step (below_alloc (o := (.cells #[.slice Ax0a (z0).1.length cx0a, .slice Ax0b (z0).2.1.length cx0b, .slice Ax0c (z0).2.2.length cx0c] 44)) (Nat.le_refl _) (Below.refl _ _))
  replace bxP0 := bxP0.alloc (.cells #[.slice Ax0a (z0).1.length cx0a, .slice Ax0b (z0).2.1.length cx0b, .slice Ax0c (z0).2.2.length cx0c] 44)
  replace bxr := bxr.alloc (.cells #[.slice Ax0a (z0).1.length cx0a, .slice Ax0b (z0).2.1.length cx0b, .slice Ax0c (z0).2.2.length cx0c] 44)
  have bxx0 := Box.new w7 44 #[.slice Ax0a (z0).1.length cx0a, .slice Ax0b (z0).2.1.length cx0b, .slice Ax0c (z0).2.2.length cx0c]
  generalize (w7.alloc (.cells #[.slice Ax0a (z0).1.length cx0a, .slice Ax0b (z0).2.1.length cx0b, .slice Ax0c (z0).2.2.length cx0c] 44)) = w8 at hww8 zw8 fr fx0 bxP0 bxr bxx0 ⊢
  refine (toInts _ _ _ _ _ _ (Nat.le_refl _) (ha1.keep (keeps_below hww8)) hm1).mono ?_; rintro e w9 ⟨vx1, rfl, ox1, hbw9⟩
  obtain ⟨Ax1, cx1, rfl⟩ := ox1.form
  have zw9 := hbw9.size
  have hww9 := below_then hbw9 hww8.size hww8
  replace fr := fr.step hbw9
  replace fx0 := fx0.step hbw9
  replace bxP0 := bxP0.below hbw9 bxP0.lt
  replace bxr := bxr.below hbw9 bxr.lt
  replace bxx0 := bxx0.below hbw9 bxx0.lt
  have fx1 := Far.refl w8.heap.size w9
  have qP00 : w9.cell? ⟨w.heap.size, 0, none⟩ = some (.slice A0a n0a c0a) := bxP0.cell 0
  have pP00 : ∀ o, (w9.alloc o).cell? ⟨w.heap.size, 0, none⟩ = some (.slice A0a n0a c0a) := fun o => keepA qP00
  have rP00 : w.heap.size < w9.heap.size := bxP0.lt
  have qP01 : w9.cell? ⟨w.heap.size, 1, none⟩ = some (.slice A0b n0b c0b) := bxP0.cell 1
  have pP01 : ∀ o, (w9.alloc o).cell? ⟨w.heap.size, 1, none⟩ = some (.slice A0b n0b c0b) := fun o => keepA qP01
  have rP01 : w.heap.size < w9.heap.size := bxP0.lt
  have qP02 : w9.cell? ⟨w.heap.size, 2, none⟩ = some (.slice A0c n0c c0c) := bxP0.cell 2
  have pP02 : ∀ o, (w9.alloc o).cell? ⟨w.heap.size, 2, none⟩ = some (.slice A0c n0c c0c) := fun o => keepA qP02
  have rP02 : w.heap.size < w9.heap.size := bxP0.lt
  have qr0 : w9.cell? ⟨w5.heap.size, 0, none⟩ = some (.slice Ara (renG z0 z1).1.length cra) := bxr.cell 0
  have pr0 : ∀ o, (w9.alloc o).cell? ⟨w5.heap.size, 0, none⟩ = some (.slice Ara (renG z0 z1).1.length cra) := fun o => keepA qr0
  have rr0 : w5.heap.size < w9.heap.size := bxr.lt
  have qr1 : w9.cell? ⟨w5.heap.size, 1, none⟩ = some (.slice Arb (renG z0 z1).2.1.length crb) := bxr.cell 1
  have pr1 : ∀ o, (w9.alloc o).cell? ⟨w5.heap.size, 1, none⟩ = some (.slice Arb (renG z0 z1).2.1.length crb) := fun o => keepA qr1
  have rr1 : w5.heap.size < w9.heap.size := bxr.lt
  have qr2 : w9.cell? ⟨w5.heap.size, 2, none⟩ = some (.slice Arc (renG z0 z1).2.2.length crc) := bxr.cell 2
  have pr2 : ∀ o, (w9.alloc o).cell? ⟨w5.heap.size, 2, none⟩ = some (.slice Arc (renG z0 z1).2.2.length crc) := fun o => keepA qr2
  have rr2 : w5.heap.size < w9.heap.size := bxr.lt
  have qx00 : w9.cell? ⟨w7.heap.size, 0, none⟩ = some (.slice Ax0a (z0).1.length cx0a) := bxx0.cell 0
  have px00 : ∀ o, (w9.alloc o).cell? ⟨w7.heap.size, 0, none⟩ = some (.slice Ax0a (z0).1.length cx0a) := fun o => keepA qx00
  have rx00 : w7.heap.size < w9.heap.size := bxx0.lt
  have qx01 : w9.cell? ⟨w7.heap.size, 1, none⟩ = some (.slice Ax0b (z0).2.1.length cx0b) := bxx0.cell 1
  have px01 : ∀ o, (w9.alloc o).cell? ⟨w7.heap.size, 1, none⟩ = some (.slice Ax0b (z0).2.1.length cx0b) := fun o => keepA qx01
  have rx01 : w7.heap.size < w9.heap.size := bxx0.lt
  have qx02 : w9.cell? ⟨w7.heap.size, 2, none⟩ = some (.slice Ax0c (z0).2.2.length cx0c) := bxx0.cell 2
  have px02 : ∀ o, (w9.alloc o).cell? ⟨w7.heap.size, 2, none⟩ = some (.slice Ax0c (z0).2.2.length cx0c) := fun o => keepA qx02
  have rx02 : w7.heap.size < w9.heap.size := bxx0.lt
  go_wp2_with fail
  clear qP00 pP00 rP00 qP01 pP01 rP01 qP02 pP02 rP02 qr0 pr0 rr0 qr1 pr1 rr1 qr2 pr2 rr2 qx00 px00 rx00 qx01 px01 rx01 qx02 px02 rx02
  refine (implRenamed _ _ _ _ _ _ _ _ _ _ (Nat.le_refl _) (ox0.hold fx0).reads (ox1.hold fx1).reads).mono ?_; rintro e w10 ⟨vga, vgb, vgc, rfl, og, hbw10⟩
  obtain ⟨Aga, cga, Agb, cgb, Agc, cgc, rfl, rfl, rfl⟩ := og.form
  have zw10 := hbw10.size
  have hww10 := below_then hbw10 hww9.size hww9
  replace fr := fr.step hbw10
  replace fx0 := fx0.step hbw10
  replace fx1 := fx1.step hbw10
  replace bxP0 := bxP0.below hbw10 bxP0.lt
  replace bxr := bxr.below hbw10 bxr.lt
  replace bxx0 := bxx0.below hbw10 bxx0.lt
  have fg := Far.refl w9.heap.size w10
  have qP00 : w10.cell? ⟨w.heap.size, 0, none⟩ = some (.slice A0a n0a c0a) := bxP0.cell 0
  have pP00 : ∀ o, (w10.alloc o).cell? ⟨w.heap.size, 0, none⟩ = some (.slice A0a n0a c0a) := fun o => keepA qP00
  have rP00 : w.heap.size < w10.heap.size := bxP0.lt
  have qP01 : w10.cell? ⟨w.heap.size, 1, none⟩ = some (.slice A0b n0b c0b) := bxP0.cell 1
  have pP01 : ∀ o, (w10.alloc o).cell? ⟨w.heap.size, 1, none⟩ = some (.slice A0b n0b c0b) := fun o => keepA qP01
  have rP01 : w.heap.size < w10.heap.size := bxP0.lt
  have qP02 : w10.cell? ⟨w.heap.size, 2, none⟩ = some (.slice A0c n0c c0c) := bxP0.cell 2
  have pP02 : ∀ o, (w10.alloc o).cell? ⟨w.heap.size, 2, none⟩ = some (.slice A0c n0c c0c) := fun o => keepA qP02
  have rP02 : w.heap.size < w10.heap.size := bxP0.lt
  have qr0 : w10.cell? ⟨w5.heap.size, 0, none⟩ = some (.slice Ara (renG z0 z1).1.length cra) := bxr.cell 0
  have pr0 : ∀ o, (w10.alloc o).cell? ⟨w5.heap.size, 0, none⟩ = some (.slice Ara (renG z0 z1).1.length cra) := fun o => keepA qr0
  have rr0 : w5.heap.size < w10.heap.size := bxr.lt
  have qr1 : w10.cell? ⟨w5.heap.size, 1, none⟩ = some (.slice Arb (renG z0 z1).2.1.length crb) := bxr.cell 1
  have pr1 : ∀ o, (w10.alloc o).cell? ⟨w5.heap.size, 1, none⟩ = some (.slice Arb (renG z0 z1).2.1.length crb) := fun o => keepA qr1
  have rr1 : w5.heap.size < w10.heap.size := bxr.lt
  have qr2 : w10.cell? ⟨w5.heap.size, 2, none⟩ = some (.slice Arc (renG z0 z1).2.2.length crc) := bxr.cell 2
  have pr2 : ∀ o, (w10.alloc o).cell? ⟨w5.heap.size, 2, none⟩ = some (.slice Arc (renG z0 z1).2.2.length crc) := fun o => keepA qr2
  have rr2 : w5.heap.size < w10.heap.size := bxr.lt
  have qx00 : w10.cell? ⟨w7.heap.size, 0, none⟩ = some (.slice Ax0a (z0).1.length cx0a) := bxx0.cell 0
  have px00 : ∀ o, (w10.alloc o).cell? ⟨w7.heap.size, 0, none⟩ = some (.slice Ax0a (z0).1.length cx0a) := fun o => keepA qx00
  have rx00 : w7.heap.size < w10.heap.size := bxx0.lt
  have qx01 : w10.cell? ⟨w7.heap.size, 1, none⟩ = some (.slice Ax0b (z0).2.1.length cx0b) := bxx0.cell 1
  have px01 : ∀ o, (w10.alloc o).cell? ⟨w7.heap.size, 1, none⟩ = some (.slice Ax0b (z0).2.1.length cx0b) := fun o => keepA qx01
  have rx01 : w7.heap.size < w10.heap.size := bxx0.lt
  have qx02 : w10.cell? ⟨w7.heap.size, 2, none⟩ = some (.slice Ax0c (z0).2.2.length cx0c) := bxx0.cell 2
  have px02 : ∀ o, (w10.alloc o).cell? ⟨w7.heap.size, 2, none⟩ = some (.slice Ax0c (z0).2.2.length cx0c) := fun o => keepA qx02
  have rx02 : w7.heap.size < w10.heap.size := bxx0.lt
  go_wp2_with fail
  clear qP00 pP00 rP00 qP01 pP01 rP01 qP02 pP02 rP02 qr0 pr0 rr0 qr1 pr1 rr1 qr2 pr2 rr2 qx00 px00 rx00 qx01 px01 rx01 qx02 px02 rx02
  have hww11 : Below w.heap.size w (w10.alloc (.cells #[.slice Aga (renG z0 z1).1.length cga, .slice Agb (renG z0 z1).2.1.length cgb, .slice Agc (renG z0 z1).2.2.length cgc] 44)) := below_alloc (Nat.le_refl _) hww10
  have zw11 : w10.heap.size + 1 = (w10.alloc (.cells #[.slice Aga (renG z0 z1).1.length cga, .slice Agb (renG z0 z1).2.1.length cgb, .slice Agc (renG z0 z1).2.2.length cgc] 44)).heap.size := by simp
  replace fr := fr.step (below_alloc (o := (.cells #[.slice Aga (renG z0 z1).1.length cga, .slice Agb (renG z0 z1).2.1.length cgb, .slice Agc (renG z0 z1).2.2.length cgc] 44)) (Nat.le_refl _) (Below.refl _ _))
  replace fx0 := fx0.step (below_alloc (o := (.cells #[.slice Aga (renG z0 z1).1.length cga, .slice Agb (renG z0 z1).2.1.length cgb, .slice Agc (renG z0 z1).2.2.length cgc] 44)) (Nat.le_refl _) (Below.refl _ _))
  replace fx1 := fx1.step (below_alloc (o := (.cells #[.slice Aga (renG z0 z1).1.length cga, .slice Agb (renG z0 z1).2.1.length cgb, .slice Agc (renG z0 z1).2.2.length cgc] 44)) (Nat.le_refl _) (Below.refl _ _))
  replace fg := fg.step (below_alloc (o := (.cells #[.slice Aga (renG z0 z1).1.length cga, .slice Agb (renG z0 z1).2.1.length cgb, .slice Agc (renG z0 z1).2.2.length cgc] 44)) (Nat.le_refl _) (Below.refl _ _))
  replace bxP0 := bxP0.alloc (.cells #[.slice Aga (renG z0 z1).1.length cga, .slice Agb (renG z0 z1).2.1.length cgb, .slice Agc (renG z0 z1).2.2.length cgc] 44)
  replace bxr := bxr.alloc (.cells #[.slice Aga (renG z0 z1).1.length cga, .slice Agb (renG z0 z1).2.1.length cgb, .slice Agc (renG z0 z1).2.2.length cgc] 44)
  replace bxx0 := bxx0.alloc (.cells #[.slice Aga (renG z0 z1).1.length cga, .slice Agb (renG z0 z1).2.1.length cgb, .slice Agc (renG z0 z1).2.2.length cgc] 44)
  have bxg := Box.new w10 44 #[.slice Aga (renG z0 z1).1.length cga, .slice Agb (renG z0 z1).2.1.length cgb, .slice Agc (renG z0 z1).2.2.length cgc]
  generalize (w10.alloc (.cells #[.slice Aga (renG z0 z1).1.length cga, .slice Agb (renG z0 z1).2.1.length cgb, .slice Agc (renG z0 z1).2.2.length cgc] 44)) = w11 at hww11 zw11 fr fx0 fx1 fg bxP0 bxr bxx0 bxg ⊢
  refine (eqParity _ _ _ _ _ _ _ _ _ _ (Nat.le_refl _) (og.hold fg).reads (or.hold fr).reads).mono ?_; rintro e w12 ⟨rfl, hbw12⟩
  have zw12 := hbw12.size
  have hww12 := below_then hbw12 hww11.size hww11
  replace fr := fr.step hbw12
  replace fx0 := fx0.step hbw12
  replace fx1 := fx1.step hbw12
  replace fg := fg.step hbw12
  replace bxP0 := bxP0.below hbw12 bxP0.lt
  replace bxr := bxr.below hbw12 bxr.lt
  replace bxx0 := bxx0.below hbw12 bxx0.lt
  replace bxg := bxg.below hbw12 bxg.lt
  rw [eqPar_self]
  have qP00 : w12.cell? ⟨w.heap.size, 0, none⟩ = some (.slice A0a n0a c0a) := bxP0.cell 0
  have pP00 : ∀ o, (w12.alloc o).cell? ⟨w.heap.size, 0, none⟩ = some (.slice A0a n0a c0a) := fun o => keepA qP00
  have rP00 : w.heap.size < w12.heap.size := bxP0.lt
  have qP01 : w12.cell? ⟨w.heap.size, 1, none⟩ = some (.slice A0b n0b c0b) := bxP0.cell 1
  have pP01 : ∀ o, (w12.alloc o).cell? ⟨w.heap.size, 1, none⟩ = some (.slice A0b n0b c0b) := fun o => keepA qP01
  have rP01 : w.heap.size < w12.heap.size := bxP0.lt
  have qP02 : w12.cell? ⟨w.heap.size, 2, none⟩ = some (.slice A0c n0c c0c) := bxP0.cell 2
  have pP02 : ∀ o, (w12.alloc o).cell? ⟨w.heap.size, 2, none⟩ = some (.slice A0c n0c c0c) := fun o => keepA qP02
  have rP02 : w.heap.size < w12.heap.size := bxP0.lt
  have qr0 : w12.cell? ⟨w5.heap.size, 0, none⟩ = some (.slice Ara (renG z0 z1).1.length cra) := bxr.cell 0
  have pr0 : ∀ o, (w12.alloc o).cell? ⟨w5.heap.size, 0, none⟩ = some (.slice Ara (renG z0 z1).1.length cra) := fun o => keepA qr0
  have rr0 : w5.heap.size < w12.heap.size := bxr.lt
  have qr1 : w12.cell? ⟨w5.heap.size, 1, none⟩ = some (.slice Arb (renG z0 z1).2.1.length crb) := bxr.cell 1
  have pr1 : ∀ o, (w12.alloc o).cell? ⟨w5.heap.size, 1, none⟩ = some (.slice Arb (renG z0 z1).2.1.length crb) := fun o => keepA qr1
  have rr1 : w5.heap.size < w12.heap.size := bxr.lt
  have qr2 : w12.cell? ⟨w5.heap.size, 2, none⟩ = some (.slice Arc (renG z0 z1).2.2.length crc) := bxr.cell 2
  have pr2 : ∀ o, (w12.alloc o).cell? ⟨w5.heap.size, 2, none⟩ = some (.slice Arc (renG z0 z1).2.2.length crc) := fun o => keepA qr2
  have rr2 : w5.heap.size < w12.heap.size := bxr.lt
  have qx00 : w12.cell? ⟨w7.heap.size, 0, none⟩ = some (.slice Ax0a (z0).1.length cx0a) := bxx0.cell 0
  have px00 : ∀ o, (w12.alloc o).cell? ⟨w7.heap.size, 0, none⟩ = some (.slice Ax0a (z0).1.length cx0a) := fun o => keepA qx00
  have rx00 : w7.heap.size < w12.heap.size := bxx0.lt
  have qx01 : w12.cell? ⟨w7.heap.size, 1, none⟩ = some (.slice Ax0b (z0).2.1.length cx0b) := bxx0.cell 1
  have px01 : ∀ o, (w12.alloc o).cell? ⟨w7.heap.size, 1, none⟩ = some (.slice Ax0b (z0).2.1.length cx0b) := fun o => keepA qx01
  have rx01 : w7.heap.size < w12.heap.size := bxx0.lt
  have qx02 : w12.cell? ⟨w7.heap.size, 2, none⟩ = some (.slice Ax0c (z0).2.2.length cx0c) := bxx0.cell 2
  have px02 : ∀ o, (w12.alloc o).cell? ⟨w7.heap.size, 2, none⟩ = some (.slice Ax0c (z0).2.2.length cx0c) := fun o => keepA qx02
  have rx02 : w7.heap.size < w12.heap.size := bxx0.lt
  have qg0 : w12.cell? ⟨w10.heap.size, 0, none⟩ = some (.slice Aga (renG z0 z1).1.length cga) := bxg.cell 0
  have pg0 : ∀ o, (w12.alloc o).cell? ⟨w10.heap.size, 0, none⟩ = some (.slice Aga (renG z0 z1).1.length cga) := fun o => keepA qg0
  have rg0 : w10.heap.size < w12.heap.size := bxg.lt
  have qg1 : w12.cell? ⟨w10.heap.size, 1, none⟩ = some (.slice Agb (renG z0 z1).2.1.length cgb) := bxg.cell 1
  have pg1 : ∀ o, (w12.alloc o).cell? ⟨w10.heap.size, 1, none⟩ = some (.slice Agb (renG z0 z1).2.1.length cgb) := fun o => keepA qg1
  have rg1 : w10.heap.size < w12.heap.size := bxg.lt
  have qg2 : w12.cell? ⟨w10.heap.size, 2, none⟩ = some (.slice Agc (renG z0 z1).2.2.length cgc) := bxg.cell 2
  have pg2 : ∀ o, (w12.alloc o).cell? ⟨w10.heap.size, 2, none⟩ = some (.slice Agc (renG z0 z1).2.2.length cgc) := fun o => keepA qg2
  have rg2 : w10.heap.size < w12.heap.size := bxg.lt
  go_wp2_with fail
  clear qP00 pP00 rP00 qP01 pP01 rP01 qP02 pP02 rP02 qr0 pr0 rr0 qr1 pr1 rr1 qr2 pr2 rr2 qx00 px00 rx00 qx01 px01 rx01 qx02 px02 rx02 qg0 pg0 rg0 qg1 pg1 rg1 qg2 pg2 rg2
  have qP00 : w12.cell? ⟨w.heap.size, 0, none⟩ = some (.slice A0a n0a c0a) := bxP0.cell 0
  have qP01 : w12.cell? ⟨w.heap.size, 1, none⟩ = some (.slice A0b n0b c0b) := bxP0.cell 1
  have qP02 : w12.cell? ⟨w.heap.size, 2, none⟩ = some (.slice A0c n0c c0c) := bxP0.cell 2
  have rP0 : w.heap.size < w12.heap.size := bxP0.lt
  have qr0 : w12.cell? ⟨w5.heap.size, 0, none⟩ = some (.slice Ara (renG z0 z1).1.length cra) := bxr.cell 0
  have qr1 : w12.cell? ⟨w5.heap.size, 1, none⟩ = some (.slice Arb (renG z0 z1).2.1.length crb) := bxr.cell 1
  have qr2 : w12.cell? ⟨w5.heap.size, 2, none⟩ = some (.slice Arc (renG z0 z1).2.2.length crc) := bxr.cell 2
  have rr : w5.heap.size < w12.heap.size := bxr.lt
  have qx00 : w12.cell? ⟨w7.heap.size, 0, none⟩ = some (.slice Ax0a (z0).1.length cx0a) := bxx0.cell 0
  have qx01 : w12.cell? ⟨w7.heap.size, 1, none⟩ = some (.slice Ax0b (z0).2.1.length cx0b) := bxx0.cell 1
  have qx02 : w12.cell? ⟨w7.heap.size, 2, none⟩ = some (.slice Ax0c (z0).2.2.length cx0c) := bxx0.cell 2
  have rx0 : w7.heap.size < w12.heap.size := bxx0.lt
  have qg0 : w12.cell? ⟨w10.heap.size, 0, none⟩ = some (.slice Aga (renG z0 z1).1.length cga) := bxg.cell 0
  have qg1 : w12.cell? ⟨w10.heap.size, 1, none⟩ = some (.slice Agb (renG z0 z1).2.1.length cgb) := bxg.cell 1
  have qg2 : w12.cell? ⟨w10.heap.size, 2, none⟩ = some (.slice Agc (renG z0 z1).2.2.length cgc) := bxg.cell 2
  have rg : w10.heap.size < w12.heap.size := bxg.lt
  go_region_held3 (fun w' => w'.cell? ⟨w.heap.size, 0, none⟩ = some (.slice A0a n0a c0a) ∧ w'.cell? ⟨w.heap.size, 1, none⟩ = some (.slice A0b n0b c0b) ∧ w'.cell? ⟨w.heap.size, 2, none⟩ = some (.slice A0c n0c c0c) ∧ w'.cell? ⟨w5.heap.size, 0, none⟩ = some (.slice Ara (renG z0 z1).1.length cra) ∧ w'.cell? ⟨w5.heap.size, 1, none⟩ = some (.slice Arb (renG z0 z1).2.1.length crb) ∧ w'.cell? ⟨w5.heap.size, 2, none⟩ = some (.slice Arc (renG z0 z1).2.2.length crc) ∧ w'.cell? ⟨w7.heap.size, 0, none⟩ = some (.slice Ax0a (z0).1.length cx0a) ∧ w'.cell? ⟨w7.heap.size, 1, none⟩ = some (.slice Ax0b (z0).2.1.length cx0b) ∧ w'.cell? ⟨w7.heap.size, 2, none⟩ = some (.slice Ax0c (z0).2.2.length cx0c) ∧ w'.cell? ⟨w10.heap.size, 0, none⟩ = some (.slice Aga (renG z0 z1).1.length cga) ∧ w'.cell? ⟨w10.heap.size, 1, none⟩ = some (.slice Agb (renG z0 z1).2.1.length cgb) ∧ w'.cell? ⟨w10.heap.size, 2, none⟩ = some (.slice Agc (renG z0 z1).2.2.length cgc))
    (refine ⟨?_, ?_, ?_, ?_, ?_, ?_, ?_, ?_, ?_, ?_, ?_, ?_⟩ <;> repeat (first | with_reducible assumption | with_reducible refine keepD ?_ | with_reducible refine keepA ?_))
    (first
      | (go_at_call 53
         refine (toParity _ _ _ _ _ _ (Nat.le_refl _) (ha0.keep (keeps_below (Below.drew hww12))) hm0).mono ?_; rintro e w13 ⟨vt0a, vt0b, vt0c, rfl, ot0, hbw13⟩
         replace hbw13 := below_undrew hbw13
         obtain ⟨At0a, ct0a, At0b, ct0b, At0c, ct0c, rfl, rfl, rfl⟩ := ot0.form
         have zw13 := hbw13.size
         have hww13 := below_then hbw13 hww12.size hww12
         replace fr := fr.step hbw13
         replace fx0 := fx0.step hbw13
         replace fx1 := fx1.step hbw13
         replace fg := fg.step hbw13
         replace bxP0 := bxP0.below hbw13 bxP0.lt
         replace bxr := bxr.below hbw13 bxr.lt
         replace bxx0 := bxx0.below hbw13 bxx0.lt
         replace bxg := bxg.below hbw13 bxg.lt
         have ft0 := Far.refl w12.heap.size w13
         have qP00 : w13.cell? ⟨w.heap.size, 0, none⟩ = some (.slice A0a n0a c0a) := bxP0.cell 0
         have qP01 : w13.cell? ⟨w.heap.size, 1, none⟩ = some (.slice A0b n0b c0b) := bxP0.cell 1
         have qP02 : w13.cell? ⟨w.heap.size, 2, none⟩ = some (.slice A0c n0c c0c) := bxP0.cell 2
         have rP0 : w.heap.size < w13.heap.size := bxP0.lt
         have qr0 : w13.cell? ⟨w5.heap.size, 0, none⟩ = some (.slice Ara (renG z0 z1).1.length cra) := bxr.cell 0
         have qr1 : w13.cell? ⟨w5.heap.size, 1, none⟩ = some (.slice Arb (renG z0 z1).2.1.length crb) := bxr.cell 1
         have qr2 : w13.cell? ⟨w5.heap.size, 2, none⟩ = some (.slice Arc (renG z0 z1).2.2.length crc) := bxr.cell 2
         have rr : w5.heap.size < w13.heap.size := bxr.lt
         have qx00 : w13.cell? ⟨w7.heap.size, 0, none⟩ = some (.slice Ax0a (z0).1.length cx0a) := bxx0.cell 0
         have qx01 : w13.cell? ⟨w7.heap.size, 1, none⟩ = some (.slice Ax0b (z0).2.1.length cx0b) := bxx0.cell 1
         have qx02 : w13.cell? ⟨w7.heap.size, 2, none⟩ = some (.slice Ax0c (z0).2.2.length cx0c) := bxx0.cell 2
         have rx0 : w7.heap.size < w13.heap.size := bxx0.lt
         have qg0 : w13.cell? ⟨w10.heap.size, 0, none⟩ = some (.slice Aga (renG z0 z1).1.length cga) := bxg.cell 0
         have qg1 : w13.cell? ⟨w10.heap.size, 1, none⟩ = some (.slice Agb (renG z0 z1).2.1.length cgb) := bxg.cell 1
         have qg2 : w13.cell? ⟨w10.heap.size, 2, none⟩ = some (.slice Agc (renG z0 z1).2.2.length cgc) := bxg.cell 2
         have rg : w10.heap.size < w13.heap.size := bxg.lt)
      | (go_at_call 47
         refine (eqParity _ _ _ _ _ _ _ _ _ _ (Nat.le_refl _) (ox0.hold fx0).reads (ot0.hold ft0).reads).mono ?_; rintro e w14 ⟨rfl, hbw14⟩
         have zw14 := hbw14.size
         have hww14 := below_then hbw14 hww13.size hww13
         replace fr := fr.step hbw14
         replace fx0 := fx0.step hbw14
         replace fx1 := fx1.step hbw14
         replace fg := fg.step hbw14
         replace ft0 := ft0.step hbw14
         replace bxP0 := bxP0.below hbw14 bxP0.lt
         replace bxr := bxr.below hbw14 bxr.lt
         replace bxx0 := bxx0.below hbw14 bxx0.lt
         replace bxg := bxg.below hbw14 bxg.lt
         rw [eqPar_self]
         have qP00 : w14.cell? ⟨w.heap.size, 0, none⟩ = some (.slice A0a n0a c0a) := bxP0.cell 0
         have qP01 : w14.cell? ⟨w.heap.size, 1, none⟩ = some (.slice A0b n0b c0b) := bxP0.cell 1
         have qP02 : w14.cell? ⟨w.heap.size, 2, none⟩ = some (.slice A0c n0c c0c) := bxP0.cell 2
         have rP0 : w.heap.size < w14.heap.size := bxP0.lt
         have qr0 : w14.cell? ⟨w5.heap.size, 0, none⟩ = some (.slice Ara (renG z0 z1).1.length cra) := bxr.cell 0
         have qr1 : w14.cell? ⟨w5.heap.size, 1, none⟩ = some (.slice Arb (renG z0 z1).2.1.length crb) := bxr.cell 1
         have qr2 : w14.cell? ⟨w5.heap.size, 2, none⟩ = some (.slice Arc (renG z0 z1).2.2.length crc) := bxr.cell 2
         have rr : w5.heap.size < w14.heap.size := bxr.lt
         have qx00 : w14.cell? ⟨w7.heap.size, 0, none⟩ = some (.slice Ax0a (z0).1.length cx0a) := bxx0.cell 0
         have qx01 : w14.cell? ⟨w7.heap.size, 1, none⟩ = some (.slice Ax0b (z0).2.1.length cx0b) := bxx0.cell 1
         have qx02 : w14.cell? ⟨w7.heap.size, 2, none⟩ = some (.slice Ax0c (z0).2.2.length cx0c) := bxx0.cell 2
         have rx0 : w7.heap.size < w14.heap.size := bxx0.lt
         have qg0 : w14.cell? ⟨w10.heap.size, 0, none⟩ = some (.slice Aga (renG z0 z1).1.length cga) := bxg.cell 0
         have qg1 : w14.cell? ⟨w10.heap.size, 1, none⟩ = some (.slice Agb (renG z0 z1).2.1.length cgb) := bxg.cell 1
         have qg2 : w14.cell? ⟨w10.heap.size, 2, none⟩ = some (.slice Agc (renG z0 z1).2.2.length cgc) := bxg.cell 2
         have rg : w10.heap.size < w14.heap.size := bxg.lt))
  clear qP00 qP01 qP02 rP0 qr0 qr1 qr2 rr qx00 qx01 qx02 rx0 qg0 qg1 qg2 rg
  clear ot0 ft0
  have qP00 : w14.cell? ⟨w.heap.size, 0, none⟩ = some (.slice A0a n0a c0a) := bxP0.cell 0
  have pP00 : ∀ o, (w14.alloc o).cell? ⟨w.heap.size, 0, none⟩ = some (.slice A0a n0a c0a) := fun o => keepA qP00
  have rP00 : w.heap.size < w14.heap.size := bxP0.lt
  have qP01 : w14.cell? ⟨w.heap.size, 1, none⟩ = some (.slice A0b n0b c0b) := bxP0.cell 1
  have pP01 : ∀ o, (w14.alloc o).cell? ⟨w.heap.size, 1, none⟩ = some (.slice A0b n0b c0b) := fun o => keepA qP01
  have rP01 : w.heap.size < w14.heap.size := bxP0.lt
  have qP02 : w14.cell? ⟨w.heap.size, 2, none⟩ = some (.slice A0c n0c c0c) := bxP0.cell 2
  have pP02 : ∀ o, (w14.alloc o).cell? ⟨w.heap.size, 2, none⟩ = some (.slice A0c n0c c0c) := fun o => keepA qP02
  have rP02 : w.heap.size < w14.heap.size := bxP0.lt
  have qr0 : w14.cell? ⟨w5.heap.size, 0, none⟩ = some (.slice Ara (renG z0 z1).1.length cra) := bxr.cell 0
  have pr0 : ∀ o, (w14.alloc o).cell? ⟨w5.heap.size, 0, none⟩ = some (.slice Ara (renG z0 z1).1.length cra) := fun o => keepA qr0
  have rr0 : w5.heap.size < w14.heap.size := bxr.lt
  have qr1 : w14.cell? ⟨w5.heap.size, 1, none⟩ = some (.slice Arb (renG z0 z1).2.1.length crb) := bxr.cell 1
  have pr1 : ∀ o, (w14.alloc o).cell? ⟨w5.heap.size, 1, none⟩ = some (.slice Arb (renG z0 z1).2.1.length crb) := fun o => keepA qr1
  have rr1 : w5.heap.size < w14.heap.size := bxr.lt
  have qr2 : w14.cell? ⟨w5.heap.size, 2, none⟩ = some (.slice Arc (renG z0 z1).2.2.length crc) := bxr.cell 2
  have pr2 : ∀ o, (w14.alloc o).cell? ⟨w5.heap.size, 2, none⟩ = some (.slice Arc (renG z0 z1).2.2.length crc) := fun o => keepA qr2
  have rr2 : w5.heap.size < w14.heap.size := bxr.lt
  have qx00 : w14.cell? ⟨w7.heap.size, 0, none⟩ = some (.slice Ax0a (z0).1.length cx0a) := bxx0.cell 0
  have px00 : ∀ o, (w14.alloc o).cell? ⟨w7.heap.size, 0, none⟩ = some (.slice Ax0a (z0).1.length cx0a) := fun o => keepA qx00
  have rx00 : w7.heap.size < w14.heap.size := bxx0.lt
  have qx01 : w14.cell? ⟨w7.heap.size, 1, none⟩ = some (.slice Ax0b (z0).2.1.length cx0b) := bxx0.cell 1
  have px01 : ∀ o, (w14.alloc o).cell? ⟨w7.heap.size, 1, none⟩ = some (.slice Ax0b (z0).2.1.length cx0b) := fun o => keepA qx01
  have rx01 : w7.heap.size < w14.heap.size := bxx0.lt
  have qx02 : w14.cell? ⟨w7.heap.size, 2, none⟩ = some (.slice Ax0c (z0).2.2.length cx0c) := bxx0.cell 2
  have px02 : ∀ o, (w14.alloc o).cell? ⟨w7.heap.size, 2, none⟩ = some (.slice Ax0c (z0).2.2.length cx0c) := fun o => keepA qx02
  have rx02 : w7.heap.size < w14.heap.size := bxx0.lt
  have qg0 : w14.cell? ⟨w10.heap.size, 0, none⟩ = some (.slice Aga (renG z0 z1).1.length cga) := bxg.cell 0
  have pg0 : ∀ o, (w14.alloc o).cell? ⟨w10.heap.size, 0, none⟩ = some (.slice Aga (renG z0 z1).1.length cga) := fun o => keepA qg0
  have rg0 : w10.heap.size < w14.heap.size := bxg.lt
  have qg1 : w14.cell? ⟨w10.heap.size, 1, none⟩ = some (.slice Agb (renG z0 z1).2.1.length cgb) := bxg.cell 1
  have pg1 : ∀ o, (w14.alloc o).cell? ⟨w10.heap.size, 1, none⟩ = some (.slice Agb (renG z0 z1).2.1.length cgb) := fun o => keepA qg1
  have rg1 : w10.heap.size < w14.heap.size := bxg.lt
  have qg2 : w14.cell? ⟨w10.heap.size, 2, none⟩ = some (.slice Agc (renG z0 z1).2.2.length cgc) := bxg.cell 2
  have pg2 : ∀ o, (w14.alloc o).cell? ⟨w10.heap.size, 2, none⟩ = some (.slice Agc (renG z0 z1).2.2.length cgc) := fun o => keepA qg2
  have rg2 : w10.heap.size < w14.heap.size := bxg.lt
  go_wp2_with fail
  clear qP00 pP00 rP00 qP01 pP01 rP01 qP02 pP02 rP02 qr0 pr0 rr0 qr1 pr1 rr1 qr2 pr2 rr2 qx00 px00 rx00 qx01 px01 rx01 qx02 px02 rx02 qg0 pg0 rg0 qg1 pg1 rg1 qg2 pg2 rg2
  refine (toInts _ _ _ _ _ _ (Nat.le_refl _) (ha1.keep (keeps_below hww14)) hm1).mono ?_; rintro e w15 ⟨vt1, rfl, ot1, hbw15⟩
  obtain ⟨At1, ct1, rfl⟩ := ot1.form
  have zw15 := hbw15.size
  have hww15 := below_then hbw15 hww14.size hww14
  replace fr := fr.step hbw15
  replace fx0 := fx0.step hbw15
  replace fx1 := fx1.step hbw15
  replace fg := fg.step hbw15
  replace bxP0 := bxP0.below hbw15 bxP0.lt
  replace bxr := bxr.below hbw15 bxr.lt
  replace bxx0 := bxx0.below hbw15 bxx0.lt
  replace bxg := bxg.below hbw15 bxg.lt
  have ft1 := Far.refl w14.heap.size w15
  have qP00 : w15.cell? ⟨w.heap.size, 0, none⟩ = some (.slice A0a n0a c0a) := bxP0.cell 0
  have pP00 : ∀ o, (w15.alloc o).cell? ⟨w.heap.size, 0, none⟩ = some (.slice A0a n0a c0a) := fun o => keepA qP00
  have rP00 : w.heap.size < w15.heap.size := bxP0.lt
  have qP01 : w15.cell? ⟨w.heap.size, 1, none⟩ = some (.slice A0b n0b c0b) := bxP0.cell 1
  have pP01 : ∀ o, (w15.alloc o).cell? ⟨w.heap.size, 1, none⟩ = some (.slice A0b n0b c0b) := fun o => keepA qP01
  have rP01 : w.heap.size < w15.heap.size := bxP0.lt
  have qP02 : w15.cell? ⟨w.heap.size, 2, none⟩ = some (.slice A0c n0c c0c) := bxP0.cell 2
  have pP02 : ∀ o, (w15.alloc o).cell? ⟨w.heap.size, 2, none⟩ = some (.slice A0c n0c c0c) := fun o => keepA qP02
  have rP02 : w.heap.size < w15.heap.size := bxP0.lt
  have qr0 : w15.cell? ⟨w5.heap.size, 0, none⟩ = some (.slice Ara (renG z0 z1).1.length cra) := bxr.cell 0
  have pr0 : ∀ o, (w15.alloc o).cell? ⟨w5.heap.size, 0, none⟩ = some (.slice Ara (renG z0 z1).1.length cra) := fun o => keepA qr0
  have rr0 : w5.heap.size < w15.heap.size := bxr.lt
  have qr1 : w15.cell? ⟨w5.heap.size, 1, none⟩ = some (.slice Arb (renG z0 z1).2.1.length crb) := bxr.cell 1
  have pr1 : ∀ o, (w15.alloc o).cell? ⟨w5.heap.size, 1, none⟩ = some (.slice Arb (renG z0 z1).2.1.length crb) := fun o => keepA qr1
  have rr1 : w5.heap.size < w15.heap.size := bxr.lt
  have qr2 : w15.cell? ⟨w5.heap.size, 2, none⟩ = some (.slice Arc (renG z0 z1).2.2.length crc) := bxr.cell 2
  have pr2 : ∀ o, (w15.alloc o).cell? ⟨w5.heap.size, 2, none⟩ = some (.slice Arc (renG z0 z1).2.2.length crc) := fun o => keepA qr2
  have rr2 : w5.heap.size < w15.heap.size := bxr.lt
  have qx00 : w15.cell? ⟨w7.heap.size, 0, none⟩ = some (.slice Ax0a (z0).1.length cx0a) := bxx0.cell 0
  have px00 : ∀ o, (w15.alloc o).cell? ⟨w7.heap.size, 0, none⟩ = some (.slice Ax0a (z0).1.length cx0a) := fun o => keepA qx00
  have rx00 : w7.heap.size < w15.heap.size := bxx0.lt
  have qx01 : w15.cell? ⟨w7.heap.size, 1, none⟩ = some (.slice Ax0b (z0).2.1.length cx0b) := bxx0.cell 1
  have px01 : ∀ o, (w15.alloc o).cell? ⟨w7.heap.size, 1, none⟩ = some (.slice Ax0b (z0).2.1.length cx0b) := fun o => keepA qx01
  have rx01 : w7.heap.size < w15.heap.size := bxx0.lt
  have qx02 : w15.cell? ⟨w7.heap.size, 2, none⟩ = some (.slice Ax0c (z0).2.2.length cx0c) := bxx0.cell 2
  have px02 : ∀ o, (w15.alloc o).cell? ⟨w7.heap.size, 2, none⟩ = some (.slice Ax0c (z0).2.2.length cx0c) := fun o => keepA qx02
  have rx02 : w7.heap.size < w15.heap.size := bxx0.lt
  have qg0 : w15.cell? ⟨w10.heap.size, 0, none⟩ = some (.slice Aga (renG z0 z1).1.length cga) := bxg.cell 0
  have pg0 : ∀ o, (w15.alloc o).cell? ⟨w10.heap.size, 0, none⟩ = some (.slice Aga (renG z0 z1).1.length cga) := fun o => keepA qg0
  have rg0 : w10.heap.size < w15.heap.size := bxg.lt
  have qg1 : w15.cell? ⟨w10.heap.size, 1, none⟩ = some (.slice Agb (renG z0 z1).2.1.length cgb) := bxg.cell 1
  have pg1 : ∀ o, (w15.alloc o).cell? ⟨w10.heap.size, 1, none⟩ = some (.slice Agb (renG z0 z1).2.1.length cgb) := fun o => keepA qg1
  have rg1 : w10.heap.size < w15.heap.size := bxg.lt
  have qg2 : w15.cell? ⟨w10.heap.size, 2, none⟩ = some (.slice Agc (renG z0 z1).2.2.length cgc) := bxg.cell 2
  have pg2 : ∀ o, (w15.alloc o).cell? ⟨w10.heap.size, 2, none⟩ = some (.slice Agc (renG z0 z1).2.2.length cgc) := fun o => keepA qg2
  have rg2 : w10.heap.size < w15.heap.size := bxg.lt
  go_wp2_with fail
  clear qP00 pP00 rP00 qP01 pP01 rP01 qP02 pP02 rP02 qr0 pr0 rr0 qr1 pr1 rr1 qr2 pr2 rr2 qx00 px00 rx00 qx01 px01 rx01 qx02 px02 rx02 qg0 pg0 rg0 qg1 pg1 rg1 qg2 pg2 rg2
  refine (eqInts _ _ _ _ _ _ _ _ _ (ox1.hold fx1).reads (ot1.hold ft1).reads).mono ?_; rintro e w16 ⟨rfl, hqtw16⟩
  have hbw16 := below_qt hqtw16 (Below.refl w15.heap.size w15)
  have zw16 := hbw16.size
  have hww16 := below_then hbw16 hww15.size hww15
  replace fr := fr.step hbw16
  replace fx0 := fx0.step hbw16
  replace fx1 := fx1.step hbw16
  replace fg := fg.step hbw16
  replace ft1 := ft1.step hbw16
  replace bxP0 := bxP0.below hbw16 bxP0.lt
  replace bxr := bxr.below hbw16 bxr.lt
  replace bxx0 := bxx0.below hbw16 bxx0.lt
  replace bxg := bxg.below hbw16 bxg.lt
  rw [eqL_self]
  clear ot1 ft1
  have qP00 : w16.cell? ⟨w.heap.size, 0, none⟩ = some (.slice A0a n0a c0a) := bxP0.cell 0
  have pP00 : ∀ o, (w16.alloc o).cell? ⟨w.heap.size, 0, none⟩ = some (.slice A0a n0a c0a) := fun o => keepA qP00
  have rP00 : w.heap.size < w16.heap.size := bxP0.lt
  have qP01 : w16.cell? ⟨w.heap.size, 1, none⟩ = some (.slice A0b n0b c0b) := bxP0.cell 1
  have pP01 : ∀ o, (w16.alloc o).cell? ⟨w.heap.size, 1, none⟩ = some (.slice A0b n0b c0b) := fun o => keepA qP01
  have rP01 : w.heap.size < w16.heap.size := bxP0.lt
  have qP02 : w16.cell? ⟨w.heap.size, 2, none⟩ = some (.slice A0c n0c c0c) := bxP0.cell 2
  have pP02 : ∀ o, (w16.alloc o).cell? ⟨w.heap.size, 2, none⟩ = some (.slice A0c n0c c0c) := fun o => keepA qP02
  have rP02 : w.heap.size < w16.heap.size := bxP0.lt
  have qr0 : w16.cell? ⟨w5.heap.size, 0, none⟩ = some (.slice Ara (renG z0 z1).1.length cra) := bxr.cell 0
  have pr0 : ∀ o, (w16.alloc o).cell? ⟨w5.heap.size, 0, none⟩ = some (.slice Ara (renG z0 z1).1.length cra) := fun o => keepA qr0
  have rr0 : w5.heap.size < w16.heap.size := bxr.lt
  have qr1 : w16.cell? ⟨w5.heap.size, 1, none⟩ = some (.slice Arb (renG z0 z1).2.1.length crb) := bxr.cell 1
  have pr1 : ∀ o, (w16.alloc o).cell? ⟨w5.heap.size, 1, none⟩ = some (.slice Arb (renG z0 z1).2.1.length crb) := fun o => keepA qr1
  have rr1 : w5.heap.size < w16.heap.size := bxr.lt
  have qr2 : w16.cell? ⟨w5.heap.size, 2, none⟩ = some (.slice Arc (renG z0 z1).2.2.length crc) := bxr.cell 2
  have pr2 : ∀ o, (w16.alloc o).cell? ⟨w5.heap.size, 2, none⟩ = some (.slice Arc (renG z0 z1).2.2.length crc) := fun o => keepA qr2
  have rr2 : w5.heap.size < w16.heap.size := bxr.lt
  have qx00 : w16.cell? ⟨w7.heap.size, 0, none⟩ = some (.slice Ax0a (z0).1.length cx0a) := bxx0.cell 0
  have px00 : ∀ o, (w16.alloc o).cell? ⟨w7.heap.size, 0, none⟩ = some (.slice Ax0a (z0).1.length cx0a) := fun o => keepA qx00
  have rx00 : w7.heap.size < w16.heap.size := bxx0.lt
  have qx01 : w16.cell? ⟨w7.heap.size, 1, none⟩ = some (.slice Ax0b (z0).2.1.length cx0b) := bxx0.cell 1
  have px01 : ∀ o, (w16.alloc o).cell? ⟨w7.heap.size, 1, none⟩ = some (.slice Ax0b (z0).2.1.length cx0b) := fun o => keepA qx01
  have rx01 : w7.heap.size < w16.heap.size := bxx0.lt
  have qx02 : w16.cell? ⟨w7.heap.size, 2, none⟩ = some (.slice Ax0c (z0).2.2.length cx0c) := bxx0.cell 2
  have px02 : ∀ o, (w16.alloc o).cell? ⟨w7.heap.size, 2, none⟩ = some (.slice Ax0c (z0).2.2.length cx0c) := fun o => keepA qx02
  have rx02 : w7.heap.size < w16.heap.size := bxx0.lt
  have qg0 : w16.cell? ⟨w10.heap.size, 0, none⟩ = some (.slice Aga (renG z0 z1).1.length cga) := bxg.cell 0
  have pg0 : ∀ o, (w16.alloc o).cell? ⟨w10.heap.size, 0, none⟩ = some (.slice Aga (renG z0 z1).1.length cga) := fun o => keepA qg0
  have rg0 : w10.heap.size < w16.heap.size := bxg.lt
  have qg1 : w16.cell? ⟨w10.heap.size, 1, none⟩ = some (.slice Agb (renG z0 z1).2.1.length cgb) := bxg.cell 1
  have pg1 : ∀ o, (w16.alloc o).cell? ⟨w10.heap.size, 1, none⟩ = some (.slice Agb (renG z0 z1).2.1.length cgb) := fun o => keepA qg1
  have rg1 : w10.heap.size < w16.heap.size := bxg.lt
  have qg2 : w16.cell? ⟨w10.heap.size, 2, none⟩ = some (.slice Agc (renG z0 z1).2.2.length cgc) := bxg.cell 2
  have pg2 : ∀ o, (w16.alloc o).cell? ⟨w10.heap.size, 2, none⟩ = some (.slice Agc (renG z0 z1).2.2.length cgc) := fun o => keepA qg2
  have rg2 : w10.heap.size < w16.heap.size := bxg.lt
  go_wp2_with fail
  clear qP00 pP00 rP00 qP01 pP01 rP01 qP02 pP02 rP02 qr0 pr0 rr0 qr1 pr1 rr1 qr2 pr2 rr2 qx00 px00 rx00 qx01 px01 rx01 qx02 px02 rx02 qg0 pg0 rg0 qg1 pg1 rg1 qg2 pg2 rg2
  refine (markParityU _ _ _ _ (1) _ _ _ (by omega) ox0 fx0 (by omega) (by omega)).mono ?_; rintro e w17 ⟨rfl, onx0, chw17⟩
  have zw17 := chw17.size
  have blw17 : Below w6.heap.size w16 w17 := chw17.below (by omega) (fun x h => h.1)
  have hww17 := below_then blw17 (by omega) hww16
  replace fr := fr.mark chw17 (by omega)
  replace fx1 := fx1.mark chw17 (by omega)
  replace fg := fg.mark chw17 (by omega)
  clear ox0 fx0; have ox0 := onx0; have fx0 := Far.refl w6.heap.size w17
  replace bxP0 := bxP0.chg chw17 (by omega)
  replace bxr := bxr.chg chw17 (by omega)
  replace bxx0 := bxx0.chg chw17 (by omega)
  replace bxg := bxg.chg chw17 (by omega)
  clear ox0 fx0
  clear bxx0
  have qP00 : w17.cell? ⟨w.heap.size, 0, none⟩ = some (.slice A0a n0a c0a) := bxP0.cell 0
  have pP00 : ∀ o, (w17.alloc o).cell? ⟨w.heap.size, 0, none⟩ = some (.slice A0a n0a c0a) := fun o => keepA qP00
  have rP00 : w.heap.size < w17.heap.size := bxP0.lt
  have qP01 : w17.cell? ⟨w.heap.size, 1, none⟩ = some (.slice A0b n0b c0b) := bxP0.cell 1
  have pP01 : ∀ o, (w17.alloc o).cell? ⟨w.heap.size, 1, none⟩ = some (.slice A0b n0b c0b) := fun o => keepA qP01
  have rP01 : w.heap.size < w17.heap.size := bxP0.lt
  have qP02 : w17.cell? ⟨w.heap.size, 2, none⟩ = some (.slice A0c n0c c0c) := bxP0.cell 2
  have pP02 : ∀ o, (w17.alloc o).cell? ⟨w.heap.size, 2, none⟩ = some (.slice A0c n0c c0c) := fun o => keepA qP02
  have rP02 : w.heap.size < w17.heap.size := bxP0.lt
  have qr0 : w17.cell? ⟨w5.heap.size, 0, none⟩ = some (.slice Ara (renG z0 z1).1.length cra) := bxr.cell 0
  have pr0 : ∀ o, (w17.alloc o).cell? ⟨w5.heap.size, 0, none⟩ = some (.slice Ara (renG z0 z1).1.length cra) := fun o => keepA qr0
  have rr0 : w5.heap.size < w17.heap.size := bxr.lt
  have qr1 : w17.cell? ⟨w5.heap.size, 1, none⟩ = some (.slice Arb (renG z0 z1).2.1.length crb) := bxr.cell 1
  have pr1 : ∀ o, (w17.alloc o).cell? ⟨w5.heap.size, 1, none⟩ = some (.slice Arb (renG z0 z1).2.1.length crb) := fun o => keepA qr1
  have rr1 : w5.heap.size < w17.heap.size := bxr.lt
  have qr2 : w17.cell? ⟨w5.heap.size, 2, none⟩ = some (.slice Arc (renG z0 z1).2.2.length crc) := bxr.cell 2
  have pr2 : ∀ o, (w17.alloc o).cell? ⟨w5.heap.size, 2, none⟩ = some (.slice Arc (renG z0 z1).2.2.length crc) := fun o => keepA qr2
  have rr2 : w5.heap.size < w17.heap.size := bxr.lt
  have qg0 : w17.cell? ⟨w10.heap.size, 0, none⟩ = some (.slice Aga (renG z0 z1).1.length cga) := bxg.cell 0
  have pg0 : ∀ o, (w17.alloc o).cell? ⟨w10.heap.size, 0, none⟩ = some (.slice Aga (renG z0 z1).1.length cga) := fun o => keepA qg0
  have rg0 : w10.heap.size < w17.heap.size := bxg.lt
  have qg1 : w17.cell? ⟨w10.heap.size, 1, none⟩ = some (.slice Agb (renG z0 z1).2.1.length cgb) := bxg.cell 1
  have pg1 : ∀ o, (w17.alloc o).cell? ⟨w10.heap.size, 1, none⟩ = some (.slice Agb (renG z0 z1).2.1.length cgb) := fun o => keepA qg1
  have rg1 : w10.heap.size < w17.heap.size := bxg.lt
  have qg2 : w17.cell? ⟨w10.heap.size, 2, none⟩ = some (.slice Agc (renG z0 z1).2.2.length cgc) := bxg.cell 2
  have pg2 : ∀ o, (w17.alloc o).cell? ⟨w10.heap.size, 2, none⟩ = some (.slice Agc (renG z0 z1).2.2.length cgc) := fun o => keepA qg2
  have rg2 : w10.heap.size < w17.heap.size := bxg.lt
  go_wp2_with fail
  clear qP00 pP00 rP00 qP01 pP01 rP01 qP02 pP02 rP02 qr0 pr0 rr0 qr1 pr1 rr1 qr2 pr2 rr2 qg0 pg0 rg0 qg1 pg1 rg1 qg2 pg2 rg2
  refine (markIntsU _ _ _ _ (1 + (ptot (z0) : Int)) _ _ _ ox1 fx1 (by omega) (by have := HL1.out; omega)).mono ?_; rintro e w18 ⟨rfl, onx1, chw18⟩
  have zw18 := chw18.size
  have blw18 : Below w8.heap.size w17 w18 := chw18.below (by omega) (fun x h => h.1)
  have hww18 := below_then blw18 (by omega) hww17
  replace fr := fr.mark chw18 (by omega)
  replace fg := fg.mark chw18 (by omega)
  clear ox1 fx1; have ox1 := onx1; have fx1 := Far.refl w8.heap.size w18
  replace bxP0 := bxP0.chg chw18 (by omega)
  replace bxr := bxr.chg chw18 (by omega)
  replace bxg := bxg.chg chw18 (by omega)
  clear ox1 fx1
  have qP00 : w18.cell? ⟨w.heap.size, 0, none⟩ = some (.slice A0a n0a c0a) := bxP0.cell 0
  have pP00 : ∀ o, (w18.alloc o).cell? ⟨w.heap.size, 0, none⟩ = some (.slice A0a n0a c0a) := fun o => keepA qP00
  have rP00 : w.heap.size < w18.heap.size := bxP0.lt
  have qP01 : w18.cell? ⟨w.heap.size, 1, none⟩ = some (.slice A0b n0b c0b) := bxP0.cell 1
  have pP01 : ∀ o, (w18.alloc o).cell? ⟨w.heap.size, 1, none⟩ = some (.slice A0b n0b c0b) := fun o => keepA qP01
  have rP01 : w.heap.size < w18.heap.size := bxP0.lt
  have qP02 : w18.cell? ⟨w.heap.size, 2, none⟩ = some (.slice A0c n0c c0c) := bxP0.cell 2
  have pP02 : ∀ o, (w18.alloc o).cell? ⟨w.heap.size, 2, none⟩ = some (.slice A0c n0c c0c) := fun o => keepA qP02
  have rP02 : w.heap.size < w18.heap.size := bxP0.lt
  have qr0 : w18.cell? ⟨w5.heap.size, 0, none⟩ = some (.slice Ara (renG z0 z1).1.length cra) := bxr.cell 0
  have pr0 : ∀ o, (w18.alloc o).cell? ⟨w5.heap.size, 0, none⟩ = some (.slice Ara (renG z0 z1).1.length cra) := fun o => keepA qr0
  have rr0 : w5.heap.size < w18.heap.size := bxr.lt
  have qr1 : w18.cell? ⟨w5.heap.size, 1, none⟩ = some (.slice Arb (renG z0 z1).2.1.length crb) := bxr.cell 1
  have pr1 : ∀ o, (w18.alloc o).cell? ⟨w5.heap.size, 1, none⟩ = some (.slice Arb (renG z0 z1).2.1.length crb) := fun o => keepA qr1
  have rr1 : w5.heap.size < w18.heap.size := bxr.lt
  have qr2 : w18.cell? ⟨w5.heap.size, 2, none⟩ = some (.slice Arc (renG z0 z1).2.2.length crc) := bxr.cell 2
  have pr2 : ∀ o, (w18.alloc o).cell? ⟨w5.heap.size, 2, none⟩ = some (.slice Arc (renG z0 z1).2.2.length crc) := fun o => keepA qr2
  have rr2 : w5.heap.size < w18.heap.size := bxr.lt
  have qg0 : w18.cell? ⟨w10.heap.size, 0, none⟩ = some (.slice Aga (renG z0 z1).1.length cga) := bxg.cell 0
  have pg0 : ∀ o, (w18.alloc o).cell? ⟨w10.heap.size, 0, none⟩ = some (.slice Aga (renG z0 z1).1.length cga) := fun o => keepA qg0
  have rg0 : w10.heap.size < w18.heap.size := bxg.lt
  have qg1 : w18.cell? ⟨w10.heap.size, 1, none⟩ = some (.slice Agb (renG z0 z1).2.1.length cgb) := bxg.cell 1
  have pg1 : ∀ o, (w18.alloc o).cell? ⟨w10.heap.size, 1, none⟩ = some (.slice Agb (renG z0 z1).2.1.length cgb) := fun o => keepA qg1
  have rg1 : w10.heap.size < w18.heap.size := bxg.lt
  have qg2 : w18.cell? ⟨w10.heap.size, 2, none⟩ = some (.slice Agc (renG z0 z1).2.2.length cgc) := bxg.cell 2
  have pg2 : ∀ o, (w18.alloc o).cell? ⟨w10.heap.size, 2, none⟩ = some (.slice Agc (renG z0 z1).2.2.length cgc) := fun o => keepA qg2
  have rg2 : w10.heap.size < w18.heap.size := bxg.lt
  go_wp2_with fail
  clear qP00 pP00 rP00 qP01 pP01 rP01 qP02 pP02 rP02 qr0 pr0 rr0 qr1 pr1 rr1 qr2 pr2 rr2 qg0 pg0 rg0 qg1 pg1 rg1 qg2 pg2 rg2
  refine (eqParity _ _ _ _ _ _ _ _ _ _ (Nat.le_refl _) (og.hold fg).reads (or.hold fr).reads).mono ?_; rintro e w19 ⟨rfl, hbw19⟩
  have zw19 := hbw19.size
  have hww19 := below_then hbw19 hww18.size hww18
  replace fr := fr.step hbw19
  replace fg := fg.step hbw19
  replace bxP0 := bxP0.below hbw19 bxP0.lt
  replace bxr := bxr.below hbw19 bxr.lt
  replace bxg := bxg.below hbw19 bxg.lt
  rw [eqPar_self]
  have qP00 : w19.cell? ⟨w.heap.size, 0, none⟩ = some (.slice A0a n0a c0a) := bxP0.cell 0
  have pP00 : ∀ o, (w19.alloc o).cell? ⟨w.heap.size, 0, none⟩ = some (.slice A0a n0a c0a) := fun o => keepA qP00
  have rP00 : w.heap.size < w19.heap.size := bxP0.lt
  have qP01 : w19.cell? ⟨w.heap.size, 1, none⟩ = some (.slice A0b n0b c0b) := bxP0.cell 1
  have pP01 : ∀ o, (w19.alloc o).cell? ⟨w.heap.size, 1, none⟩ = some (.slice A0b n0b c0b) := fun o => keepA qP01
  have rP01 : w.heap.size < w19.heap.size := bxP0.lt
  have qP02 : w19.cell? ⟨w.heap.size, 2, none⟩ = some (.slice A0c n0c c0c) := bxP0.cell 2
  have pP02 : ∀ o, (w19.alloc o).cell? ⟨w.heap.size, 2, none⟩ = some (.slice A0c n0c c0c) := fun o => keepA qP02
  have rP02 : w.heap.size < w19.heap.size := bxP0.lt
  have qr0 : w19.cell? ⟨w5.heap.size, 0, none⟩ = some (.slice Ara (renG z0 z1).1.length cra) := bxr.cell 0
  have pr0 : ∀ o, (w19.alloc o).cell? ⟨w5.heap.size, 0, none⟩ = some (.slice Ara (renG z0 z1).1.length cra) := fun o => keepA qr0
  have rr0 : w5.heap.size < w19.heap.size := bxr.lt
  have qr1 : w19.cell? ⟨w5.heap.size, 1, none⟩ = some (.slice Arb (renG z0 z1).2.1.length crb) := bxr.cell 1
  have pr1 : ∀ o, (w19.alloc o).cell? ⟨w5.heap.size, 1, none⟩ = some (.slice Arb (renG z0 z1).2.1.length crb) := fun o => keepA qr1
  have rr1 : w5.heap.size < w19.heap.size := bxr.lt
  have qr2 : w19.cell? ⟨w5.heap.size, 2, none⟩ = some (.slice Arc (renG z0 z1).2.2.length crc) := bxr.cell 2
  have pr2 : ∀ o, (w19.alloc o).cell? ⟨w5.heap.size, 2, none⟩ = some (.slice Arc (renG z0 z1).2.2.length crc) := fun o => keepA qr2
  have rr2 : w5.heap.size < w19.heap.size := bxr.lt
  have qg0 : w19.cell? ⟨w10.heap.size, 0, none⟩ = some (.slice Aga (renG z0 z1).1.length cga) := bxg.cell 0
  have pg0 : ∀ o, (w19.alloc o).cell? ⟨w10.heap.size, 0, none⟩ = some (.slice Aga (renG z0 z1).1.length cga) := fun o => keepA qg0
  have rg0 : w10.heap.size < w19.heap.size := bxg.lt
  have qg1 : w19.cell? ⟨w10.heap.size, 1, none⟩ = some (.slice Agb (renG z0 z1).2.1.length cgb) := bxg.cell 1
  have pg1 : ∀ o, (w19.alloc o).cell? ⟨w10.heap.size, 1, none⟩ = some (.slice Agb (renG z0 z1).2.1.length cgb) := fun o => keepA qg1
  have rg1 : w10.heap.size < w19.heap.size := bxg.lt
  have qg2 : w19.cell? ⟨w10.heap.size, 2, none⟩ = some (.slice Agc (renG z0 z1).2.2.length cgc) := bxg.cell 2
  have pg2 : ∀ o, (w19.alloc o).cell? ⟨w10.heap.size, 2, none⟩ = some (.slice Agc (renG z0 z1).2.2.length cgc) := fun o => keepA qg2
  have rg2 : w10.heap.size < w19.heap.size := bxg.lt
  go_wp2_with fail
  clear qP00 pP00 rP00 qP01 pP01 rP01 qP02 pP02 rP02 qr0 pr0 rr0 qr1 pr1 rr1 qr2 pr2 rr2 qg0 pg0 rg0 qg1 pg1 rg1 qg2 pg2 rg2
  refine (markParityU _ _ _ _ 1 _ _ _ (by omega) og fg (by omega) (by omega)).mono ?_; rintro e w20 ⟨rfl, ong, chw20⟩
  have zw20 := chw20.size
  have blw20 : Below w9.heap.size w19 w20 := chw20.below (by omega) (fun x h => h.1)
  have hww20 := below_then blw20 (by omega) hww19
  replace fr := fr.mark chw20 (by omega)
  clear og fg; have og := ong; have fg := Far.refl w9.heap.size w20
  replace bxP0 := bxP0.chg chw20 (by omega)
  replace bxr := bxr.chg chw20 (by omega)
  replace bxg := bxg.chg chw20 (by omega)
  have qP00 : w20.cell? ⟨w.heap.size, 0, none⟩ = some (.slice A0a n0a c0a) := bxP0.cell 0
  have pP00 : ∀ o, (w20.alloc o).cell? ⟨w.heap.size, 0, none⟩ = some (.slice A0a n0a c0a) := fun o => keepA qP00
  have rP00 : w.heap.size < w20.heap.size := bxP0.lt
  have qP01 : w20.cell? ⟨w.heap.size, 1, none⟩ = some (.slice A0b n0b c0b) := bxP0.cell 1
  have pP01 : ∀ o, (w20.alloc o).cell? ⟨w.heap.size, 1, none⟩ = some (.slice A0b n0b c0b) := fun o => keepA qP01
  have rP01 : w.heap.size < w20.heap.size := bxP0.lt
  have qP02 : w20.cell? ⟨w.heap.size, 2, none⟩ = some (.slice A0c n0c c0c) := bxP0.cell 2
  have pP02 : ∀ o, (w20.alloc o).cell? ⟨w.heap.size, 2, none⟩ = some (.slice A0c n0c c0c) := fun o => keepA qP02
  have rP02 : w.heap.size < w20.heap.size := bxP0.lt
  have qr0 : w20.cell? ⟨w5.heap.size, 0, none⟩ = some (.slice Ara (renG z0 z1).1.length cra) := bxr.cell 0
  have pr0 : ∀ o, (w20.alloc o).cell? ⟨w5.heap.size, 0, none⟩ = some (.slice Ara (renG z0 z1).1.length cra) := fun o => keepA qr0
  have rr0 : w5.heap.size < w20.heap.size := bxr.lt
  have qr1 : w20.cell? ⟨w5.heap.size, 1, none⟩ = some (.slice Arb (renG z0 z1).2.1.length crb) := bxr.cell 1
  have pr1 : ∀ o, (w20.alloc o).cell? ⟨w5.heap.size, 1, none⟩ = some (.slice Arb (renG z0 z1).2.1.length crb) := fun o => keepA qr1
  have rr1 : w5.heap.size < w20.heap.size := bxr.lt
  have qr2 : w20.cell? ⟨w5.heap.size, 2, none⟩ = some (.slice Arc (renG z0 z1).2.2.length crc) := bxr.cell 2
  have pr2 : ∀ o, (w20.alloc o).cell? ⟨w5.heap.size, 2, none⟩ = some (.slice Arc (renG z0 z1).2.2.length crc) := fun o => keepA qr2
  have rr2 : w5.heap.size < w20.heap.size := bxr.lt
  have qg0 : w20.cell? ⟨w10.heap.size, 0, none⟩ = some (.slice Aga (renG z0 z1).1.length cga) := bxg.cell 0
  have pg0 : ∀ o, (w20.alloc o).cell? ⟨w10.heap.size, 0, none⟩ = some (.slice Aga (renG z0 z1).1.length cga) := fun o => keepA qg0
  have rg0 : w10.heap.size < w20.heap.size := bxg.lt
  have qg1 : w20.cell? ⟨w10.heap.size, 1, none⟩ = some (.slice Agb (renG z0 z1).2.1.length cgb) := bxg.cell 1
  have pg1 : ∀ o, (w20.alloc o).cell? ⟨w10.heap.size, 1, none⟩ = some (.slice Agb (renG z0 z1).2.1.length cgb) := fun o => keepA qg1
  have rg1 : w10.heap.size < w20.heap.size := bxg.lt
  have qg2 : w20.cell? ⟨w10.heap.size, 2, none⟩ = some (.slice Agc (renG z0 z1).2.2.length cgc) := bxg.cell 2
  have pg2 : ∀ o, (w20.alloc o).cell? ⟨w10.heap.size, 2, none⟩ = some (.slice Agc (renG z0 z1).2.2.length cgc) := fun o => keepA qg2
  have rg2 : w10.heap.size < w20.heap.size := bxg.lt
  go_wp2_with fail
  clear qP00 pP00 rP00 qP01 pP01 rP01 qP02 pP02 rP02 qr0 pr0 rr0 qr1 pr1 rr1 qr2 pr2 rr2 qg0 pg0 rg0 qg1 pg1 rg1 qg2 pg2 rg2
  refine (heldParity _ _ _ (renG z0 z1) 1 _ _ (Nat.le_refl _) (og.hold fg).reads (by omega) (by omega)).mono ?_; rintro e w21 ⟨rfl, hbw21⟩
  have zw21 := hbw21.size
  have hww21 := below_then hbw21 hww20.size hww20
  replace fr := fr.step hbw21
  replace fg := fg.step hbw21
  replace bxP0 := bxP0.below hbw21 bxP0.lt
  replace bxr := bxr.below hbw21 bxr.lt
  replace bxg := bxg.below hbw21 bxg.lt
  have qP00 : w21.cell? ⟨w.heap.size, 0, none⟩ = some (.slice A0a n0a c0a) := bxP0.cell 0
  have pP00 : ∀ o, (w21.alloc o).cell? ⟨w.heap.size, 0, none⟩ = some (.slice A0a n0a c0a) := fun o => keepA qP00
  have rP00 : w.heap.size < w21.heap.size := bxP0.lt
  have qP01 : w21.cell? ⟨w.heap.size, 1, none⟩ = some (.slice A0b n0b c0b) := bxP0.cell 1
  have pP01 : ∀ o, (w21.alloc o).cell? ⟨w.heap.size, 1, none⟩ = some (.slice A0b n0b c0b) := fun o => keepA qP01
  have rP01 : w.heap.size < w21.heap.size := bxP0.lt
  have qP02 : w21.cell? ⟨w.heap.size, 2, none⟩ = some (.slice A0c n0c c0c) := bxP0.cell 2
  have pP02 : ∀ o, (w21.alloc o).cell? ⟨w.heap.size, 2, none⟩ = some (.slice A0c n0c c0c) := fun o => keepA qP02
  have rP02 : w.heap.size < w21.heap.size := bxP0.lt
  have qr0 : w21.cell? ⟨w5.heap.size, 0, none⟩ = some (.slice Ara (renG z0 z1).1.length cra) := bxr.cell 0
  have pr0 : ∀ o, (w21.alloc o).cell? ⟨w5.heap.size, 0, none⟩ = some (.slice Ara (renG z0 z1).1.length cra) := fun o => keepA qr0
  have rr0 : w5.heap.size < w21.heap.size := bxr.lt
  have qr1 : w21.cell? ⟨w5.heap.size, 1, none⟩ = some (.slice Arb (renG z0 z1).2.1.length crb) := bxr.cell 1
  have pr1 : ∀ o, (w21.alloc o).cell? ⟨w5.heap.size, 1, none⟩ = some (.slice Arb (renG z0 z1).2.1.length crb) := fun o => keepA qr1
  have rr1 : w5.heap.size < w21.heap.size := bxr.lt
  have qr2 : w21.cell? ⟨w5.heap.size, 2, none⟩ = some (.slice Arc (renG z0 z1).2.2.length crc) := bxr.cell 2
  have pr2 : ∀ o, (w21.alloc o).cell? ⟨w5.heap.size, 2, none⟩ = some (.slice Arc (renG z0 z1).2.2.length crc) := fun o => keepA qr2
  have rr2 : w5.heap.size < w21.heap.size := bxr.lt
  have qg0 : w21.cell? ⟨w10.heap.size, 0, none⟩ = some (.slice Aga (renG z0 z1).1.length cga) := bxg.cell 0
  have pg0 : ∀ o, (w21.alloc o).cell? ⟨w10.heap.size, 0, none⟩ = some (.slice Aga (renG z0 z1).1.length cga) := fun o => keepA qg0
  have rg0 : w10.heap.size < w21.heap.size := bxg.lt
  have qg1 : w21.cell? ⟨w10.heap.size, 1, none⟩ = some (.slice Agb (renG z0 z1).2.1.length cgb) := bxg.cell 1
  have pg1 : ∀ o, (w21.alloc o).cell? ⟨w10.heap.size, 1, none⟩ = some (.slice Agb (renG z0 z1).2.1.length cgb) := fun o => keepA qg1
  have rg1 : w10.heap.size < w21.heap.size := bxg.lt
  have qg2 : w21.cell? ⟨w10.heap.size, 2, none⟩ = some (.slice Agc (renG z0 z1).2.2.length cgc) := bxg.cell 2
  have pg2 : ∀ o, (w21.alloc o).cell? ⟨w10.heap.size, 2, none⟩ = some (.slice Agc (renG z0 z1).2.2.length cgc) := fun o => keepA qg2
  have rg2 : w10.heap.size < w21.heap.size := bxg.lt
  go_wp2_with fail
  clear qP00 pP00 rP00 qP01 pP01 rP01 qP02 pP02 rP02 qr0 pr0 rr0 qr1 pr1 rr1 qr2 pr2 rr2 qg0 pg0 rg0 qg1 pg1 rg1 qg2 pg2 rg2
  refine (toParity _ _ _ _ _ _ (Nat.le_refl _) (ha0.keep (keeps_below hww21)) hm0).mono ?_; rintro e w22 ⟨vs0a, vs0b, vs0c, rfl, os0, hbw22⟩
  obtain ⟨As0a, cs0a, As0b, cs0b, As0c, cs0c, rfl, rfl, rfl⟩ := os0.form
  have zw22 := hbw22.size
  have hww22 := below_then hbw22 hww21.size hww21
  replace fr := fr.step hbw22
  replace fg := fg.step hbw22
  replace bxP0 := bxP0.below hbw22 bxP0.lt
  replace bxr := bxr.below hbw22 bxr.lt
  replace bxg := bxg.below hbw22 bxg.lt
  have fs0 := Far.refl w21.heap.size w22
  have qP00 : w22.cell? ⟨w.heap.size, 0, none⟩ = some (.slice A0a n0a c0a) := bxP0.cell 0
  have pP00 : ∀ o, (w22.alloc o).cell? ⟨w.heap.size, 0, none⟩ = some (.slice A0a n0a c0a) := fun o => keepA qP00
  have rP00 : w.heap.size < w22.heap.size := bxP0.lt
  have qP01 : w22.cell? ⟨w.heap.size, 1, none⟩ = some (.slice A0b n0b c0b) := bxP0.cell 1
  have pP01 : ∀ o, (w22.alloc o).cell? ⟨w.heap.size, 1, none⟩ = some (.slice A0b n0b c0b) := fun o => keepA qP01
  have rP01 : w.heap.size < w22.heap.size := bxP0.lt
  have qP02 : w22.cell? ⟨w.heap.size, 2, none⟩ = some (.slice A0c n0c c0c) := bxP0.cell 2
  have pP02 : ∀ o, (w22.alloc o).cell? ⟨w.heap.size, 2, none⟩ = some (.slice A0c n0c c0c) := fun o => keepA qP02
  have rP02 : w.heap.size < w22.heap.size := bxP0.lt
  have qr0 : w22.cell? ⟨w5.heap.size, 0, none⟩ = some (.slice Ara (renG z0 z1).1.length cra) := bxr.cell 0
  have pr0 : ∀ o, (w22.alloc o).cell? ⟨w5.heap.size, 0, none⟩ = some (.slice Ara (renG z0 z1).1.length cra) := fun o => keepA qr0
  have rr0 : w5.heap.size < w22.heap.size := bxr.lt
  have qr1 : w22.cell? ⟨w5.heap.size, 1, none⟩ = some (.slice Arb (renG z0 z1).2.1.length crb) := bxr.cell 1
  have pr1 : ∀ o, (w22.alloc o).cell? ⟨w5.heap.size, 1, none⟩ = some (.slice Arb (renG z0 z1).2.1.length crb) := fun o => keepA qr1
  have rr1 : w5.heap.size < w22.heap.size := bxr.lt
  have qr2 : w22.cell? ⟨w5.heap.size, 2, none⟩ = some (.slice Arc (renG z0 z1).2.2.length crc) := bxr.cell 2
  have pr2 : ∀ o, (w22.alloc o).cell? ⟨w5.heap.size, 2, none⟩ = some (.slice Arc (renG z0 z1).2.2.length crc) := fun o => keepA qr2
  have rr2 : w5.heap.size < w22.heap.size := bxr.lt
  have qg0 : w22.cell? ⟨w10.heap.size, 0, none⟩ = some (.slice Aga (renG z0 z1).1.length cga) := bxg.cell 0
  have pg0 : ∀ o, (w22.alloc o).cell? ⟨w10.heap.size, 0, none⟩ = some (.slice Aga (renG z0 z1).1.length cga) := fun o => keepA qg0
  have rg0 : w10.heap.size < w22.heap.size := bxg.lt
  have qg1 : w22.cell? ⟨w10.heap.size, 1, none⟩ = some (.slice Agb (renG z0 z1).2.1.length cgb) := bxg.cell 1
  have pg1 : ∀ o, (w22.alloc o).cell? ⟨w10.heap.size, 1, none⟩ = some (.slice Agb (renG z0 z1).2.1.length cgb) := fun o => keepA qg1
  have rg1 : w10.heap.size < w22.heap.size := bxg.lt
  have qg2 : w22.cell? ⟨w10.heap.size, 2, none⟩ = some (.slice Agc (renG z0 z1).2.2.length cgc) := bxg.cell 2
  have pg2 : ∀ o, (w22.alloc o).cell? ⟨w10.heap.size, 2, none⟩ = some (.slice Agc (renG z0 z1).2.2.length cgc) := fun o => keepA qg2
  have rg2 : w10.heap.size < w22.heap.size := bxg.lt
  go_wp2_with fail
  clear qP00 pP00 rP00 qP01 pP01 rP01 qP02 pP02 rP02 qr0 pr0 rr0 qr1 pr1 rr1 qr2 pr2 rr2 qg0 pg0 rg0 qg1 pg1 rg1 qg2 pg2 rg2
  refine (toInts _ _ _ _ _ _ (Nat.le_refl _) (ha1.keep (keeps_below hww22)) hm1).mono ?_; rintro e w23 ⟨vs1, rfl, os1, hbw23⟩
  obtain ⟨As1, cs1, rfl⟩ := os1.form
  have zw23 := hbw23.size
  have hww23 := below_then hbw23 hww22.size hww22
  replace fr := fr.step hbw23
  replace fg := fg.step hbw23
  replace fs0 := fs0.step hbw23
  replace bxP0 := bxP0.below hbw23 bxP0.lt
  replace bxr := bxr.below hbw23 bxr.lt
  replace bxg := bxg.below hbw23 bxg.lt
  have fs1 := Far.refl w22.heap.size w23
  have qP00 : w23.cell? ⟨w.heap.size, 0, none⟩ = some (.slice A0a n0a c0a) := bxP0.cell 0
  have pP00 : ∀ o, (w23.alloc o).cell? ⟨w.heap.size, 0, none⟩ = some (.slice A0a n0a c0a) := fun o => keepA qP00
  have rP00 : w.heap.size < w23.heap.size := bxP0.lt
  have qP01 : w23.cell? ⟨w.heap.size, 1, none⟩ = some (.slice A0b n0b c0b) := bxP0.cell 1
  have pP01 : ∀ o, (w23.alloc o).cell? ⟨w.heap.size, 1, none⟩ = some (.slice A0b n0b c0b) := fun o => keepA qP01
  have rP01 : w.heap.size < w23.heap.size := bxP0.lt
  have qP02 : w23.cell? ⟨w.heap.size, 2, none⟩ = some (.slice A0c n0c c0c) := bxP0.cell 2
  have pP02 : ∀ o, (w23.alloc o).cell? ⟨w.heap.size, 2, none⟩ = some (.slice A0c n0c c0c) := fun o => keepA qP02
  have rP02 : w.heap.size < w23.heap.size := bxP0.lt
  have qr0 : w23.cell? ⟨w5.heap.size, 0, none⟩ = some (.slice Ara (renG z0 z1).1.length cra) := bxr.cell 0
  have pr0 : ∀ o, (w23.alloc o).cell? ⟨w5.heap.size, 0, none⟩ = some (.slice Ara (renG z0 z1).1.length cra) := fun o => keepA qr0
  have rr0 : w5.heap.size < w23.heap.size := bxr.lt
  have qr1 : w23.cell? ⟨w5.heap.size, 1, none⟩ = some (.slice Arb (renG z0 z1).2.1.length crb) := bxr.cell 1
  have pr1 : ∀ o, (w23.alloc o).cell? ⟨w5.heap.size, 1, none⟩ = some (.slice Arb (renG z0 z1).2.1.length crb) := fun o => keepA qr1
  have rr1 : w5.heap.size < w23.heap.size := bxr.lt
  have qr2 : w23.cell? ⟨w5.heap.size, 2, none⟩ = some (.slice Arc (renG z0 z1).2.2.length crc) := bxr.cell 2
  have pr2 : ∀ o, (w23.alloc o).cell? ⟨w5.heap.size, 2, none⟩ = some (.slice Arc (renG z0 z1).2.2.length crc) := fun o => keepA qr2
  have rr2 : w5.heap.size < w23.heap.size := bxr.lt
  have qg0 : w23.cell? ⟨w10.heap.size, 0, none⟩ = some (.slice Aga (renG z0 z1).1.length cga) := bxg.cell 0
  have pg0 : ∀ o, (w23.alloc o).cell? ⟨w10.heap.size, 0, none⟩ = some (.slice Aga (renG z0 z1).1.length cga) := fun o => keepA qg0
  have rg0 : w10.heap.size < w23.heap.size := bxg.lt
  have qg1 : w23.cell? ⟨w10.heap.size, 1, none⟩ = some (.slice Agb (renG z0 z1).2.1.length cgb) := bxg.cell 1
  have pg1 : ∀ o, (w23.alloc o).cell? ⟨w10.heap.size, 1, none⟩ = some (.slice Agb (renG z0 z1).2.1.length cgb) := fun o => keepA qg1
  have rg1 : w10.heap.size < w23.heap.size := bxg.lt
  have qg2 : w23.cell? ⟨w10.heap.size, 2, none⟩ = some (.slice Agc (renG z0 z1).2.2.length cgc) := bxg.cell 2
  have pg2 : ∀ o, (w23.alloc o).cell? ⟨w10.heap.size, 2, none⟩ = some (.slice Agc (renG z0 z1).2.2.length cgc) := fun o => keepA qg2
  have rg2 : w10.heap.size < w23.heap.size := bxg.lt
  go_wp2_with fail
  clear qP00 pP00 rP00 qP01 pP01 rP01 qP02 pP02 rP02 qr0 pr0 rr0 qr1 pr1 rr1 qr2 pr2 rr2 qg0 pg0 rg0 qg1 pg1 rg1 qg2 pg2 rg2
  refine (implRenamed _ _ _ _ _ _ _ _ _ _ (Nat.le_refl _) (os0.hold fs0).reads (os1.hold fs1).reads).mono ?_; rintro e w24 ⟨vha, vhb, vhc, rfl, oh, hbw24⟩
  obtain ⟨Aha, cha, Ahb, chb, Ahc, chc, rfl, rfl, rfl⟩ := oh.form
  have zw24 := hbw24.size
  have hww24 := below_then hbw24 hww23.size hww23
  replace fr := fr.step hbw24
  replace fg := fg.step hbw24
  replace fs0 := fs0.step hbw24
  replace fs1 := fs1.step hbw24
  replace bxP0 := bxP0.below hbw24 bxP0.lt
  replace bxr := bxr.below hbw24 bxr.lt
  replace bxg := bxg.below hbw24 bxg.lt
  have fh := Far.refl w23.heap.size w24
  clear os0 fs0
  clear os1 fs1
  have qP00 : w24.cell? ⟨w.heap.size, 0, none⟩ = some (.slice A0a n0a c0a) := bxP0.cell 0
  have pP00 : ∀ o, (w24.alloc o).cell? ⟨w.heap.size, 0, none⟩ = some (.slice A0a n0a c0a) := fun o => keepA qP00
  have rP00 : w.heap.size < w24.heap.size := bxP0.lt
  have qP01 : w24.cell? ⟨w.heap.size, 1, none⟩ = some (.slice A0b n0b c0b) := bxP0.cell 1
  have pP01 : ∀ o, (w24.alloc o).cell? ⟨w.heap.size, 1, none⟩ = some (.slice A0b n0b c0b) := fun o => keepA qP01
  have rP01 : w.heap.size < w24.heap.size := bxP0.lt
  have qP02 : w24.cell? ⟨w.heap.size, 2, none⟩ = some (.slice A0c n0c c0c) := bxP0.cell 2
  have pP02 : ∀ o, (w24.alloc o).cell? ⟨w.heap.size, 2, none⟩ = some (.slice A0c n0c c0c) := fun o => keepA qP02
  have rP02 : w.heap.size < w24.heap.size := bxP0.lt
  have qr0 : w24.cell? ⟨w5.heap.size, 0, none⟩ = some (.slice Ara (renG z0 z1).1.length cra) := bxr.cell 0
  have pr0 : ∀ o, (w24.alloc o).cell? ⟨w5.heap.size, 0, none⟩ = some (.slice Ara (renG z0 z1).1.length cra) := fun o => keepA qr0
  have rr0 : w5.heap.size < w24.heap.size := bxr.lt
  have qr1 : w24.cell? ⟨w5.heap.size, 1, none⟩ = some (.slice Arb (renG z0 z1).2.1.length crb) := bxr.cell 1
  have pr1 : ∀ o, (w24.alloc o).cell? ⟨w5.heap.size, 1, none⟩ = some (.slice Arb (renG z0 z1).2.1.length crb) := fun o => keepA qr1
  have rr1 : w5.heap.size < w24.heap.size := bxr.lt
  have qr2 : w24.cell? ⟨w5.heap.size, 2, none⟩ = some (.slice Arc (renG z0 z1).2.2.length crc) := bxr.cell 2
  have pr2 : ∀ o, (w24.alloc o).cell? ⟨w5.heap.size, 2, none⟩ = some (.slice Arc (renG z0 z1).2.2.length crc) := fun o => keepA qr2
  have rr2 : w5.heap.size < w24.heap.size := bxr.lt
  have qg0 : w24.cell? ⟨w10.heap.size, 0, none⟩ = some (.slice Aga (renG z0 z1).1.length cga) := bxg.cell 0
  have pg0 : ∀ o, (w24.alloc o).cell? ⟨w10.heap.size, 0, none⟩ = some (.slice Aga (renG z0 z1).1.length cga) := fun o => keepA qg0
  have rg0 : w10.heap.size < w24.heap.size := bxg.lt
  have qg1 : w24.cell? ⟨w10.heap.size, 1, none⟩ = some (.slice Agb (renG z0 z1).2.1.length cgb) := bxg.cell 1
  have pg1 : ∀ o, (w24.alloc o).cell? ⟨w10.heap.size, 1, none⟩ = some (.slice Agb (renG z0 z1).2.1.length cgb) := fun o => keepA qg1
  have rg1 : w10.heap.size < w24.heap.size := bxg.lt
  have qg2 : w24.cell? ⟨w10.heap.size, 2, none⟩ = some (.slice Agc (renG z0 z1).2.2.length cgc) := bxg.cell 2
  have pg2 : ∀ o, (w24.alloc o).cell? ⟨w10.heap.size, 2, none⟩ = some (.slice Agc (renG z0 z1).2.2.length cgc) := fun o => keepA qg2
  have rg2 : w10.heap.size < w24.heap.size := bxg.lt
  go_wp2_with fail
  clear qP00 pP00 rP00 qP01 pP01 rP01 qP02 pP02 rP02 qr0 pr0 rr0 qr1 pr1 rr1 qr2 pr2 rr2 qg0 pg0 rg0 qg1 pg1 rg1 qg2 pg2 rg2
  have hww25 : Below w.heap.size w (w24.alloc (.cells #[.slice Aha (renG z0 z1).1.length cha, .slice Ahb (renG z0 z1).2.1.length chb, .slice Ahc (renG z0 z1).2.2.length chc] 44)) := below_alloc (Nat.le_refl _) hww24
  have zw25 : w24.heap.size + 1 = (w24.alloc (.cells #[.slice Aha (renG z0 z1).1.length cha, .slice Ahb (renG z0 z1).2.1.length chb, .slice Ahc (renG z0 z1).2.2.length chc] 44)).heap.size := by simp
  replace fr := fr.step (below_alloc (o := (.cells #[.slice Aha (renG z0 z1).1.length cha, .slice Ahb (renG z0 z1).2.1.length chb, .slice Ahc (renG z0 z1).2.2.length chc] 44)) (Nat.le_refl _) (Below.refl _ _))
  replace fg := fg.step (below_alloc (o := (.cells #[.slice Aha (renG z0 z1).1.length cha, .slice Ahb (renG z0 z1).2.1.length chb, .slice Ahc (renG z0 z1).2.2.length chc] 44)) (Nat.le_refl _) (Below.refl _ _))
  replace fh := fh.step (below_alloc (o := (.cells #[.slice Aha (renG z0 z1).1.length cha, .slice Ahb (renG z0 z1).2.1.length chb, .slice Ahc (renG z0 z1).2.2.length chc] 44)) (Nat.le_refl _) (Below.refl _ _))
  replace bxP0 := bxP0.alloc (.cells #[.slice Aha (renG z0 z1).1.length cha, .slice Ahb (renG z0 z1).2.1.length chb, .slice Ahc (renG z0 z1).2.2.length chc] 44)
  replace bxr := bxr.alloc (.cells #[.slice Aha (renG z0 z1).1.length cha, .slice Ahb (renG z0 z1).2.1.length chb, .slice Ahc (renG z0 z1).2.2.length chc] 44)
  replace bxg := bxg.alloc (.cells #[.slice Aha (renG z0 z1).1.length cha, .slice Ahb (renG z0 z1).2.1.length chb, .slice Ahc (renG z0 z1).2.2.length chc] 44)
  have bxh := Box.new w24 44 #[.slice Aha (renG z0 z1).1.length cha, .slice Ahb (renG z0 z1).2.1.length chb, .slice Ahc (renG z0 z1).2.2.length chc]
  generalize (w24.alloc (.cells #[.slice Aha (renG z0 z1).1.length cha, .slice Ahb (renG z0 z1).2.1.length chb, .slice Ahc (renG z0 z1).2.2.length chc] 44)) = w25 at hww25 zw25 fr fg fh bxP0 bxr bxg bxh ⊢
  refine (eqParity _ _ _ _ _ _ _ _ _ _ (Nat.le_refl _) (oh.hold fh).reads (or.hold fr).reads).mono ?_; rintro e w26 ⟨rfl, hbw26⟩
  have zw26 := hbw26.size
  have hww26 := below_then hbw26 hww25.size hww25
  replace fr := fr.step hbw26
  replace fg := fg.step hbw26
  replace fh := fh.step hbw26
  replace bxP0 := bxP0.below hbw26 bxP0.lt
  replace bxr := bxr.below hbw26 bxr.lt
  replace bxg := bxg.below hbw26 bxg.lt
  replace bxh := bxh.below hbw26 bxh.lt
  rw [eqPar_self]
  have qP00 : w26.cell? ⟨w.heap.size, 0, none⟩ = some (.slice A0a n0a c0a) := bxP0.cell 0
  have pP00 : ∀ o, (w26.alloc o).cell? ⟨w.heap.size, 0, none⟩ = some (.slice A0a n0a c0a) := fun o => keepA qP00
  have rP00 : w.heap.size < w26.heap.size := bxP0.lt
  have qP01 : w26.cell? ⟨w.heap.size, 1, none⟩ = some (.slice A0b n0b c0b) := bxP0.cell 1
  have pP01 : ∀ o, (w26.alloc o).cell? ⟨w.heap.size, 1, none⟩ = some (.slice A0b n0b c0b) := fun o => keepA qP01
  have rP01 : w.heap.size < w26.heap.size := bxP0.lt
  have qP02 : w26.cell? ⟨w.heap.size, 2, none⟩ = some (.slice A0c n0c c0c) := bxP0.cell 2
  have pP02 : ∀ o, (w26.alloc o).cell? ⟨w.heap.size, 2, none⟩ = some (.slice A0c n0c c0c) := fun o => keepA qP02
  have rP02 : w.heap.size < w26.heap.size := bxP0.lt
  have qr0 : w26.cell? ⟨w5.heap.size, 0, none⟩ = some (.slice Ara (renG z0 z1).1.length cra) := bxr.cell 0
  have pr0 : ∀ o, (w26.alloc o).cell? ⟨w5.heap.size, 0, none⟩ = some (.slice Ara (renG z0 z1).1.length cra) := fun o => keepA qr0
  have rr0 : w5.heap.size < w26.heap.size := bxr.lt
  have qr1 : w26.cell? ⟨w5.heap.size, 1, none⟩ = some (.slice Arb (renG z0 z1).2.1.length crb) := bxr.cell 1
  have pr1 : ∀ o, (w26.alloc o).cell? ⟨w5.heap.size, 1, none⟩ = some (.slice Arb (renG z0 z1).2.1.length crb) := fun o => keepA qr1
  have rr1 : w5.heap.size < w26.heap.size := bxr.lt
  have qr2 : w26.cell? ⟨w5.heap.size, 2, none⟩ = some (.slice Arc (renG z0 z1).2.2.length crc) := bxr.cell 2
  have pr2 : ∀ o, (w26.alloc o).cell? ⟨w5.heap.size, 2, none⟩ = some (.slice Arc (renG z0 z1).2.2.length crc) := fun o => keepA qr2
  have rr2 : w5.heap.size < w26.heap.size := bxr.lt
  have qg0 : w26.cell? ⟨w10.heap.size, 0, none⟩ = some (.slice Aga (renG z0 z1).1.length cga) := bxg.cell 0
  have pg0 : ∀ o, (w26.alloc o).cell? ⟨w10.heap.size, 0, none⟩ = some (.slice Aga (renG z0 z1).1.length cga) := fun o => keepA qg0
  have rg0 : w10.heap.size < w26.heap.size := bxg.lt
  have qg1 : w26.cell? ⟨w10.heap.size, 1, none⟩ = some (.slice Agb (renG z0 z1).2.1.length cgb) := bxg.cell 1
  have pg1 : ∀ o, (w26.alloc o).cell? ⟨w10.heap.size, 1, none⟩ = some (.slice Agb (renG z0 z1).2.1.length cgb) := fun o => keepA qg1
  have rg1 : w10.heap.size < w26.heap.size := bxg.lt
  have qg2 : w26.cell? ⟨w10.heap.size, 2, none⟩ = some (.slice Agc (renG z0 z1).2.2.length cgc) := bxg.cell 2
  have pg2 : ∀ o, (w26.alloc o).cell? ⟨w10.heap.size, 2, none⟩ = some (.slice Agc (renG z0 z1).2.2.length cgc) := fun o => keepA qg2
  have rg2 : w10.heap.size < w26.heap.size := bxg.lt
  have qh0 : w26.cell? ⟨w24.heap.size, 0, none⟩ = some (.slice Aha (renG z0 z1).1.length cha) := bxh.cell 0
  have ph0 : ∀ o, (w26.alloc o).cell? ⟨w24.heap.size, 0, none⟩ = some (.slice Aha (renG z0 z1).1.length cha) := fun o => keepA qh0
  have rh0 : w24.heap.size < w26.heap.size := bxh.lt
  have qh1 : w26.cell? ⟨w24.heap.size, 1, none⟩ = some (.slice Ahb (renG z0 z1).2.1.length chb) := bxh.cell 1
  have ph1 : ∀ o, (w26.alloc o).cell? ⟨w24.heap.size, 1, none⟩ = some (.slice Ahb (renG z0 z1).2.1.length chb) := fun o => keepA qh1
  have rh1 : w24.heap.size < w26.heap.size := bxh.lt
  have qh2 : w26.cell? ⟨w24.heap.size, 2, none⟩ = some (.slice Ahc (renG z0 z1).2.2.length chc) := bxh.cell 2
  have ph2 : ∀ o, (w26.alloc o).cell? ⟨w24.heap.size, 2, none⟩ = some (.slice Ahc (renG z0 z1).2.2.length chc) := fun o => keepA qh2
  have rh2 : w24.heap.size < w26.heap.size := bxh.lt
  go_wp2_with fail
  clear qP00 pP00 rP00 qP01 pP01 rP01 qP02 pP02 rP02 qr0 pr0 rr0 qr1 pr1 rr1 qr2 pr2 rr2 qg0 pg0 rg0 qg1 pg1 rg1 qg2 pg2 rg2 qh0 ph0 rh0 qh1 ph1 rh1 qh2 ph2 rh2
  refine (heldParity _ _ _ (renG z0 z1) 1 _ _ (Nat.le_refl _) (og.hold fg).reads (by omega) (by omega)).mono ?_; rintro e w27 ⟨rfl, hbw27⟩
  have zw27 := hbw27.size
  have hww27 := below_then hbw27 hww26.size hww26
  replace fr := fr.step hbw27
  replace fg := fg.step hbw27
  replace fh := fh.step hbw27
  replace bxP0 := bxP0.below hbw27 bxP0.lt
  replace bxr := bxr.below hbw27 bxr.lt
  replace bxg := bxg.below hbw27 bxg.lt
  replace bxh := bxh.below hbw27 bxh.lt
  have qP00 : w27.cell? ⟨w.heap.size, 0, none⟩ = some (.slice A0a n0a c0a) := bxP0.cell 0
  have qP01 : w27.cell? ⟨w.heap.size, 1, none⟩ = some (.slice A0b n0b c0b) := bxP0.cell 1
  have qP02 : w27.cell? ⟨w.heap.size, 2, none⟩ = some (.slice A0c n0c c0c) := bxP0.cell 2
  have qr0 : w27.cell? ⟨w5.heap.size, 0, none⟩ = some (.slice Ara (renG z0 z1).1.length cra) := bxr.cell 0
  have qr1 : w27.cell? ⟨w5.heap.size, 1, none⟩ = some (.slice Arb (renG z0 z1).2.1.length crb) := bxr.cell 1
  have qr2 : w27.cell? ⟨w5.heap.size, 2, none⟩ = some (.slice Arc (renG z0 z1).2.2.length crc) := bxr.cell 2
  have qg0 : w27.cell? ⟨w10.heap.size, 0, none⟩ = some (.slice Aga (renG z0 z1).1.length cga) := bxg.cell 0
  have qg1 : w27.cell? ⟨w10.heap.size, 1, none⟩ = some (.slice Agb (renG z0 z1).2.1.length cgb) := bxg.cell 1
  have qg2 : w27.cell? ⟨w10.heap.size, 2, none⟩ = some (.slice Agc (renG z0 z1).2.2.length cgc) := bxg.cell 2
  have qh0 : w27.cell? ⟨w24.heap.size, 0, none⟩ = some (.slice Aha (renG z0 z1).1.length cha) := bxh.cell 0
  have qh1 : w27.cell? ⟨w24.heap.size, 1, none⟩ = some (.slice Ahb (renG z0 z1).2.1.length chb) := bxh.cell 1
  have qh2 : w27.cell? ⟨w24.heap.size, 2, none⟩ = some (.slice Ahc (renG z0 z1).2.2.length chc) := bxh.cell 2
  go_wp2
  go_ret
  exact ⟨rfl, hww27⟩

theorem own : ownKnob Try.prog.godebug = none := by kernel_rfl
theorem laidOut : laidOutB Try.prog = true := by kernel_rfl
set_option maxRecDepth 100000 in
theorem lifted (os : Os) (started : os.Started) (H : Type) (enc : TypeId × Value → H) :
    ReturnsInHanded {} Try.checked os 10 .any (Rows.fnExactRenamedGameSpec.pre6 enc Try.prog Try.f10 Rows.fnExactRenamedGameRow.domain false) (Rows.fnExactRenamedGameSpec.post enc Try.prog Try.f10 false true false false) := by
  refine returnsInHanded_of_change (C := Try.checked) own started (by kernel_rfl) Try.func10
    (ChangeSpec.witness6 (enc := enc) (C := Try.checked) false ⟨#[], #[.agg #[.slice none 0 0, .slice none 0 0, .slice none 0 0], .slice none 0 0], []⟩ 8 (by kernel_rfl) (by kernel_rfl) (by kernel_rfl) (by kernel_rfl)) ?_
  intro W base args ds gs before hval0 hW hcnd _
  have hval : ∀ (j : Nat) t v, Try.f10.params[j]? = some t → args[j]? = some v → Value.okWide Try.prog W .any base t v := hval0
  have hW' := hW
  obtain ⟨p, q, hA0, hV, rfl, hfz, hnd⟩ := hW
  have hA : DataW.TrodAll enc Try.prog W 0 (fun _ => true) true Try.f10.params.toList args.toList ds p := hA0
  rw [Try.params10] at hA hval
  obtain ⟨v0, vs0, d0, ds0, p0, q0, hargs, rfl, rfl, h0, r0⟩ := trodAll_cons hA
  obtain ⟨v1, vs1, d1, ds1, p1, q1, rfl, rfl, rfl, h1, r1⟩ := trodAll_cons r0
  obtain ⟨rfl, rfl, rfl⟩ := trodAll_nil r1
  obtain rfl : args = #[v0, v1] := by cases args; simp_all
  obtain ⟨rfl, rfl⟩ := trodVars_none hV
  have k0 := h0
  have lt0 : ∀ x ∈ p0, x.block < W.heap.size := by obtain ⟨m, hm⟩ := k0; exact DataW.trod_lt m _ _ _ hm
  obtain ⟨c0, e0, g0, y0, z0, u0, m0, l0, rfl, hy0, hz0, hu0⟩ := open_game Try.underlying62 Try.underlying60 ⟨by kernel_rfl, rfl, by kernel_rfl, rfl, by kernel_rfl, rfl, by kernel_rfl, rfl, by kernel_rfl⟩ (hval 0 62 v0 rfl rfl) h0
  obtain ⟨A0a, n0a, c0a, x0a, rfl, r0a⟩ := ri_of_trod Try.underlying27 Try.underlying2 (by kernel_rfl) hy0
  obtain ⟨A0b, n0b, c0b, x0b, rfl, r0b⟩ := rii_of_trod Try.underlying28 Try.underlying27 Try.underlying2 (by kernel_rfl) (by kernel_rfl) hz0
  obtain ⟨A0c, n0c, c0c, x0c, rfl, r0c⟩ := ri_of_trod Try.underlying27 Try.underlying2 (by kernel_rfl) hu0
  have k1 := h1
  have lt1 : ∀ x ∈ p1, x.block < W.heap.size := by obtain ⟨m, hm⟩ := k1; exact DataW.trod_lt m _ _ _ hm
  obtain ⟨a1, len1, cap1, rfl⟩ := okWide_slice Try.underlying27 (hval 1 27 v1 rfl rfl)
  obtain ⟨z1, w1⟩ : ∃ zs, RI W a1 len1 cap1 zs := by
    obtain ⟨fuel, hf⟩ := h1
    rcases open_ints Try.underlying27 Try.underlying2 (by kernel_rfl) hf with ⟨hcs, _⟩ | ⟨x, l, c, zs, hcs, _, hl, hm, hz, _, hcell, hwz⟩
    · simp [Value.cells] at hcs
      obtain ⟨rfl, rfl, rfl⟩ := hcs
      exact ⟨[], RI.of_nil⟩
    · simp [Value.cells] at hcs
      obtain ⟨rfl, rfl, rfl⟩ := hcs
      exact ⟨_, RI.of_cells hl hm (by simpa using hz) hcell⟩
  clear hA0 hval0
  refine (walk _ _ _ _ _ _ _ _ _ (x0a, x0b, x0c) a1 len1 cap1 z1 W (RPv.of r0a r0b r0c) w1).mono fun e W' ⟨he, bel⟩ => ?_
  subst he
  exact ⟨_, rfl, _, _, _, [], _, [], hW', trodAll_mk1 (shut_bool Try.underlying4 _), (trodAll_cons_mk (Below.trod laidOut (by kernel_rfl) (of_decide_eq_true (by kernel_rfl)) k0 bel lt0) (trodAll_cons_mk (Below.trod laidOut (by kernel_rfl) (of_decide_eq_true (by kernel_rfl)) k1 bel lt1) trodAll_mk0)), rfl, bel.frame _, fun h => by cases h⟩
theorem over : Rows.fnExactRenamedGameRow.holds Try.pinned (OpenSpec.ofChange Rows.fnExactRenamedGameSpec) :=
  OpenClaim.holds_of_wide 10 Try.f10 rfl rfl rfl rfl rfl rfl rfl ⟨rfl, rfl, rfl, rfl, rfl⟩ rfl rfl rfl rfl rfl (by kernel_rfl) Try.func10 (by kernel_rfl)
    (of_decide_eq_true (by kernel_rfl)) (by unfold Func.isWrapper; first | (rw [if_pos (by decide +kernel)]; kernel_rfl) | (rw [if_neg (by decide +kernel)]; exact ⟨rfl, rfl⟩))
    (fun os started H enc _ => lifted os started H enc)
/-- the statement -/
theorem proved : Rows.FnExactRenamedGameSaid := over
end Go.Proofs.Ytefjhkcafcchlaa.fnExactRenamedGame

