/- FnExactRaisedGame: for every input the law returns true, and each argument reads as it read before. No condition. -/
import Derived.Test.YtfjhkjikfjpnpaaRaised
import Derived.Test.YtfjhkjikfjpnpaaParL
import Derived.Test.YtfjhkjikfjpnpaaOpenG
import Derived.Test.YtfjhkjikfjpnpaaOpen
import Derived.Deep.RegionHeld3
namespace Go.Proofs.Ytfjhkjikfjpnpaa.fnExactRaisedGame
open Go.ChangeShapes Go.WideShapes Go.ChangeAt Go.RowKit

set_option maxRecDepth 100000 in
set_option maxHeartbeats 1600000 in
theorem walk (A0a A0b A0c : Option Addr) (n0a c0a n0b c0b n0c c0c : Nat) (z0 : ParD) (by_ : Int) (w : World) (ha0 : RPv w (.slice A0a n0a c0a) (.slice A0b n0b c0b) (.slice A0c n0c c0c) z0) :
    Calls Try.prog 5 #[.agg #[.slice A0a n0a c0a, .slice A0b n0b c0b, .slice A0c n0c c0c], .int .i64 by_] w fun e w' => e = .returned (.bool true) ∧ Below w.heap.size w w' := by
  by_cases hy0 : ¬ (((szPar z0) : Nat) : Int) ≤ 1048576
  · have E0 := Lib.hid (szF_no hy0)
    have hww := Below.refl w.heap.size w
    go_enter Try.func5, Try.ntmps5
    go_wp2_with fail
    have hww1 : Below w.heap.size w (w.alloc (.cells #[.slice A0a n0a c0a, .slice A0b n0b c0b, .slice A0c n0c c0c] 40)) := below_alloc (Nat.le_refl _) hww
    have zw1 : w.heap.size + 1 = (w.alloc (.cells #[.slice A0a n0a c0a, .slice A0b n0b c0b, .slice A0c n0c c0c] 40)).heap.size := by simp
    have bxP0 := Box.new w 40 #[.slice A0a n0a c0a, .slice A0b n0b c0b, .slice A0c n0c c0c]
    generalize (w.alloc (.cells #[.slice A0a n0a c0a, .slice A0b n0b c0b, .slice A0c n0c c0c] 40)) = w1 at hww1 zw1 bxP0 ⊢
    refine (szParity _ _ _ _ _ _ _ (Nat.le_refl _) (ha0.keep (keeps_below hww1)) (by omega) (by omega)).mono ?_; rintro e w2 ⟨rfl, hbw2⟩
    have zw2 := hbw2.size
    have hww2 := below_then hbw2 hww1.size hww1
    replace bxP0 := bxP0.below hbw2 bxP0.lt
    rw [E0.out]
    go_wp2
    go_ret
    exact ⟨rfl, hww2⟩
  have hz0 : (((szPar z0) : Nat) : Int) ≤ 1048576 := by omega
  have hm0 : (szPar z0) ≤ 1048576 := by omega
  have E0 := Lib.hid (szF_yes hz0)
  clear hy0
  have hR := raise_tot z0 by_
  have hT := ptot_sz z0
  have hne1 : ((okRaise z0 by_) != (okRaise z0 by_)) = false := by simp
  have hww := Below.refl w.heap.size w
  go_enter Try.func5, Try.ntmps5
  go_wp2_with fail
  have hww1 : Below w.heap.size w (w.alloc (.cells #[.slice A0a n0a c0a, .slice A0b n0b c0b, .slice A0c n0c c0c] 40)) := below_alloc (Nat.le_refl _) hww
  have zw1 : w.heap.size + 1 = (w.alloc (.cells #[.slice A0a n0a c0a, .slice A0b n0b c0b, .slice A0c n0c c0c] 40)).heap.size := by simp
  have bxP0 := Box.new w 40 #[.slice A0a n0a c0a, .slice A0b n0b c0b, .slice A0c n0c c0c]
  generalize (w.alloc (.cells #[.slice A0a n0a c0a, .slice A0b n0b c0b, .slice A0c n0c c0c] 40)) = w1 at hww1 zw1 bxP0 ⊢
  refine (szParity _ _ _ _ _ _ _ (Nat.le_refl _) (ha0.keep (keeps_below hww1)) (by omega) (by omega)).mono ?_; rintro e w2 ⟨rfl, hbw2⟩
  have zw2 := hbw2.size
  have hww2 := below_then hbw2 hww1.size hww1
  replace bxP0 := bxP0.below hbw2 bxP0.lt
  rw [E0.out]
  have qP00 : w2.cell? ⟨w.heap.size, 0, none⟩ = some (.slice A0a n0a c0a) := bxP0.cell 0
  have pP00 : ∀ o, (w2.alloc o).cell? ⟨w.heap.size, 0, none⟩ = some (.slice A0a n0a c0a) := fun o => keepA qP00
  have rP00 : w.heap.size < w2.heap.size := bxP0.lt
  have qP01 : w2.cell? ⟨w.heap.size, 1, none⟩ = some (.slice A0b n0b c0b) := bxP0.cell 1
  have pP01 : ∀ o, (w2.alloc o).cell? ⟨w.heap.size, 1, none⟩ = some (.slice A0b n0b c0b) := fun o => keepA qP01
  have rP01 : w.heap.size < w2.heap.size := bxP0.lt
  have qP02 : w2.cell? ⟨w.heap.size, 2, none⟩ = some (.slice A0c n0c c0c) := bxP0.cell 2
  have pP02 : ∀ o, (w2.alloc o).cell? ⟨w.heap.size, 2, none⟩ = some (.slice A0c n0c c0c) := fun o => keepA qP02
  have rP02 : w.heap.size < w2.heap.size := bxP0.lt
  go_wp2_with fail
  clear qP00 pP00 rP00 qP01 pP01 rP01 qP02 pP02 rP02
  refine (toParity _ _ _ _ _ _ (Nat.le_refl _) (ha0.keep (keeps_below hww2)) hm0).mono ?_; rintro e w3 ⟨vy0a, vy0b, vy0c, rfl, oy0, hbw3⟩
  obtain ⟨Ay0a, cy0a, Ay0b, cy0b, Ay0c, cy0c, rfl, rfl, rfl⟩ := oy0.form
  have zw3 := hbw3.size
  have hww3 := below_then hbw3 hww2.size hww2
  replace bxP0 := bxP0.below hbw3 bxP0.lt
  have fy0 := Far.refl w2.heap.size w3
  have qP00 : w3.cell? ⟨w.heap.size, 0, none⟩ = some (.slice A0a n0a c0a) := bxP0.cell 0
  have pP00 : ∀ o, (w3.alloc o).cell? ⟨w.heap.size, 0, none⟩ = some (.slice A0a n0a c0a) := fun o => keepA qP00
  have rP00 : w.heap.size < w3.heap.size := bxP0.lt
  have qP01 : w3.cell? ⟨w.heap.size, 1, none⟩ = some (.slice A0b n0b c0b) := bxP0.cell 1
  have pP01 : ∀ o, (w3.alloc o).cell? ⟨w.heap.size, 1, none⟩ = some (.slice A0b n0b c0b) := fun o => keepA qP01
  have rP01 : w.heap.size < w3.heap.size := bxP0.lt
  have qP02 : w3.cell? ⟨w.heap.size, 2, none⟩ = some (.slice A0c n0c c0c) := bxP0.cell 2
  have pP02 : ∀ o, (w3.alloc o).cell? ⟨w.heap.size, 2, none⟩ = some (.slice A0c n0c c0c) := fun o => keepA qP02
  have rP02 : w.heap.size < w3.heap.size := bxP0.lt
  go_wp2_with fail
  clear qP00 pP00 rP00 qP01 pP01 rP01 qP02 pP02 rP02
  refine (specRaisedGame _ _ _ _ _ _ _ (Nat.le_refl _) (oy0.hold fy0).reads).mono ?_; rintro e w4 ⟨vra, vrb, vrc, rfl, or, hbw4⟩
  obtain ⟨Ara, cra, Arb, crb, Arc, crc, rfl, rfl, rfl⟩ := or.form
  have zw4 := hbw4.size
  have hww4 := below_then hbw4 hww3.size hww3
  replace fy0 := fy0.step hbw4
  replace bxP0 := bxP0.below hbw4 bxP0.lt
  have fr := Far.refl w3.heap.size w4
  clear oy0 fy0
  have qP00 : w4.cell? ⟨w.heap.size, 0, none⟩ = some (.slice A0a n0a c0a) := bxP0.cell 0
  have pP00 : ∀ o, (w4.alloc o).cell? ⟨w.heap.size, 0, none⟩ = some (.slice A0a n0a c0a) := fun o => keepA qP00
  have rP00 : w.heap.size < w4.heap.size := bxP0.lt
  have qP01 : w4.cell? ⟨w.heap.size, 1, none⟩ = some (.slice A0b n0b c0b) := bxP0.cell 1
  have pP01 : ∀ o, (w4.alloc o).cell? ⟨w.heap.size, 1, none⟩ = some (.slice A0b n0b c0b) := fun o => keepA qP01
  have rP01 : w.heap.size < w4.heap.size := bxP0.lt
  have qP02 : w4.cell? ⟨w.heap.size, 2, none⟩ = some (.slice A0c n0c c0c) := bxP0.cell 2
  have pP02 : ∀ o, (w4.alloc o).cell? ⟨w.heap.size, 2, none⟩ = some (.slice A0c n0c c0c) := fun o => keepA qP02
  have rP02 : w.heap.size < w4.heap.size := bxP0.lt
  go_wp2_with fail
  clear qP00 pP00 rP00 qP01 pP01 rP01 qP02 pP02 rP02
  have hww5 : Below w.heap.size w (w4.alloc (.cells #[.slice Ara (raiseG z0 by_).1.length cra, .slice Arb (raiseG z0 by_).2.1.length crb, .slice Arc (raiseG z0 by_).2.2.length crc] 44)) := below_alloc (Nat.le_refl _) hww4
  have zw5 : w4.heap.size + 1 = (w4.alloc (.cells #[.slice Ara (raiseG z0 by_).1.length cra, .slice Arb (raiseG z0 by_).2.1.length crb, .slice Arc (raiseG z0 by_).2.2.length crc] 44)).heap.size := by simp
  replace fr := fr.step (below_alloc (o := (.cells #[.slice Ara (raiseG z0 by_).1.length cra, .slice Arb (raiseG z0 by_).2.1.length crb, .slice Arc (raiseG z0 by_).2.2.length crc] 44)) (Nat.le_refl _) (Below.refl _ _))
  replace bxP0 := bxP0.alloc (.cells #[.slice Ara (raiseG z0 by_).1.length cra, .slice Arb (raiseG z0 by_).2.1.length crb, .slice Arc (raiseG z0 by_).2.2.length crc] 44)
  have bxr := Box.new w4 44 #[.slice Ara (raiseG z0 by_).1.length cra, .slice Arb (raiseG z0 by_).2.1.length crb, .slice Arc (raiseG z0 by_).2.2.length crc]
  generalize (w4.alloc (.cells #[.slice Ara (raiseG z0 by_).1.length cra, .slice Arb (raiseG z0 by_).2.1.length crb, .slice Arc (raiseG z0 by_).2.2.length crc] 44)) = w5 at hww5 zw5 fr bxP0 bxr ⊢
  refine (toParity _ _ _ _ _ _ (Nat.le_refl _) (ha0.keep (keeps_below hww5)) hm0).mono ?_; rintro e w6 ⟨vx0a, vx0b, vx0c, rfl, ox0, hbw6⟩
  obtain ⟨Ax0a, cx0a, Ax0b, cx0b, Ax0c, cx0c, rfl, rfl, rfl⟩ := ox0.form
  have zw6 := hbw6.size
  have hww6 := below_then hbw6 hww5.size hww5
  replace fr := fr.step hbw6
  replace bxP0 := bxP0.below hbw6 bxP0.lt
  replace bxr := bxr.below hbw6 bxr.lt
  have fx0 := Far.refl w5.heap.size w6
  have qP00 : w6.cell? ⟨w.heap.size, 0, none⟩ = some (.slice A0a n0a c0a) := bxP0.cell 0
  have pP00 : ∀ o, (w6.alloc o).cell? ⟨w.heap.size, 0, none⟩ = some (.slice A0a n0a c0a) := fun o => keepA qP00
  have rP00 : w.heap.size < w6.heap.size := bxP0.lt
  have qP01 : w6.cell? ⟨w.heap.size, 1, none⟩ = some (.slice A0b n0b c0b) := bxP0.cell 1
  have pP01 : ∀ o, (w6.alloc o).cell? ⟨w.heap.size, 1, none⟩ = some (.slice A0b n0b c0b) := fun o => keepA qP01
  have rP01 : w.heap.size < w6.heap.size := bxP0.lt
  have qP02 : w6.cell? ⟨w.heap.size, 2, none⟩ = some (.slice A0c n0c c0c) := bxP0.cell 2
  have pP02 : ∀ o, (w6.alloc o).cell? ⟨w.heap.size, 2, none⟩ = some (.slice A0c n0c c0c) := fun o => keepA qP02
  have rP02 : w.heap.size < w6.heap.size := bxP0.lt
  have qr0 : w6.cell? ⟨w4.heap.size, 0, none⟩ = some (.slice Ara (raiseG z0 by_).1.length cra) := bxr.cell 0
  have pr0 : ∀ o, (w6.alloc o).cell? ⟨w4.heap.size, 0, none⟩ = some (.slice Ara (raiseG z0 by_).1.length cra) := fun o => keepA qr0
  have rr0 : w4.heap.size < w6.heap.size := bxr.lt
  have qr1 : w6.cell? ⟨w4.heap.size, 1, none⟩ = some (.slice Arb (raiseG z0 by_).2.1.length crb) := bxr.cell 1
  have pr1 : ∀ o, (w6.alloc o).cell? ⟨w4.heap.size, 1, none⟩ = some (.slice Arb (raiseG z0 by_).2.1.length crb) := fun o => keepA qr1
  have rr1 : w4.heap.size < w6.heap.size := bxr.lt
  have qr2 : w6.cell? ⟨w4.heap.size, 2, none⟩ = some (.slice Arc (raiseG z0 by_).2.2.length crc) := bxr.cell 2
  have pr2 : ∀ o, (w6.alloc o).cell? ⟨w4.heap.size, 2, none⟩ = some (.slice Arc (raiseG z0 by_).2.2.length crc) := fun o => keepA qr2
  have rr2 : w4.heap.size < w6.heap.size := bxr.lt
  go_wp2_with fail
  clear qP00 pP00 rP00 qP01 pP01 rP01 qP02 pP02 rP02 qr0 pr0 rr0 qr1 pr1 rr1 qr2 pr2 rr2
  have hww7 : Below w.heap.size w (w6.alloc (.cells #[.slice Ax0a (z0).1.length cx0a, .slice Ax0b (z0).2.1.length cx0b, .slice Ax0c (z0).2.2.length cx0c] 44)) := below_alloc (Nat.le_refl _) hww6
  have zw7 : w6.heap.size + 1 = (w6.alloc (.cells #[.slice Ax0a (z0).1.length cx0a, .slice Ax0b (z0).2.1.length cx0b, .slice Ax0c (z0).2.2.length cx0c] 44)).heap.size := by simp
  replace fr := fr.step (below_alloc (o := (.cells #[.slice Ax0a (z0).1.length cx0a, .slice Ax0b (z0).2.1.length cx0b, .slice Ax0c (z0).2.2.length cx0c] 44)) (Nat.le_refl _) (Below.refl _ _))
  replace fx0 := fx0.step (below_alloc (o := (.cells #[.slice Ax0a (z0).1.length cx0a, .slice Ax0b (z0).2.1.length cx0b, .slice Ax0c (z0).2.2.length cx0c] 44)) (Nat.le_refl _) (Below.refl _ _))
  replace bxP0 := bxP0.alloc (.cells #[.slice Ax0a (z0).1.length cx0a, .slice Ax0b (z0).2.1.length cx0b, .slice Ax0c (z0).2.2.length cx0c] 44)
  replace bxr := bxr.alloc (.cells #[.slice Ax0a (z0).1.length cx0a, .slice Ax0b (z0).2.1.length cx0b, .slice Ax0c (z0).2.2.length cx0c] 44)
  have bxx0 := Box.new w6 44 #[.slice Ax0a (z0).1.length cx0a, .slice Ax0b (z0).2.1.length cx0b, .slice Ax0c (z0).2.2.length cx0c]
  generalize (w6.alloc (.cells #[.slice Ax0a (z0).1.length cx0a, .slice Ax0b (z0).2.1.length cx0b, .slice Ax0c (z0).2.2.length cx0c] 44)) = w7 at hww7 zw7 fr fx0 bxP0 bxr bxx0 ⊢
  refine (implRaisedGame _ _ _ _ _ _ _ (Nat.le_refl _) (ox0.hold fx0).reads).mono ?_; rintro e w8 ⟨vga, vgb, vgc, rfl, og, hbw8⟩
  obtain ⟨Aga, cga, Agb, cgb, Agc, cgc, rfl, rfl, rfl⟩ := og.form
  have zw8 := hbw8.size
  have hww8 := below_then hbw8 hww7.size hww7
  replace fr := fr.step hbw8
  replace fx0 := fx0.step hbw8
  replace bxP0 := bxP0.below hbw8 bxP0.lt
  replace bxr := bxr.below hbw8 bxr.lt
  replace bxx0 := bxx0.below hbw8 bxx0.lt
  have fg := Far.refl w7.heap.size w8
  have qP00 : w8.cell? ⟨w.heap.size, 0, none⟩ = some (.slice A0a n0a c0a) := bxP0.cell 0
  have pP00 : ∀ o, (w8.alloc o).cell? ⟨w.heap.size, 0, none⟩ = some (.slice A0a n0a c0a) := fun o => keepA qP00
  have rP00 : w.heap.size < w8.heap.size := bxP0.lt
  have qP01 : w8.cell? ⟨w.heap.size, 1, none⟩ = some (.slice A0b n0b c0b) := bxP0.cell 1
  have pP01 : ∀ o, (w8.alloc o).cell? ⟨w.heap.size, 1, none⟩ = some (.slice A0b n0b c0b) := fun o => keepA qP01
  have rP01 : w.heap.size < w8.heap.size := bxP0.lt
  have qP02 : w8.cell? ⟨w.heap.size, 2, none⟩ = some (.slice A0c n0c c0c) := bxP0.cell 2
  have pP02 : ∀ o, (w8.alloc o).cell? ⟨w.heap.size, 2, none⟩ = some (.slice A0c n0c c0c) := fun o => keepA qP02
  have rP02 : w.heap.size < w8.heap.size := bxP0.lt
  have qr0 : w8.cell? ⟨w4.heap.size, 0, none⟩ = some (.slice Ara (raiseG z0 by_).1.length cra) := bxr.cell 0
  have pr0 : ∀ o, (w8.alloc o).cell? ⟨w4.heap.size, 0, none⟩ = some (.slice Ara (raiseG z0 by_).1.length cra) := fun o => keepA qr0
  have rr0 : w4.heap.size < w8.heap.size := bxr.lt
  have qr1 : w8.cell? ⟨w4.heap.size, 1, none⟩ = some (.slice Arb (raiseG z0 by_).2.1.length crb) := bxr.cell 1
  have pr1 : ∀ o, (w8.alloc o).cell? ⟨w4.heap.size, 1, none⟩ = some (.slice Arb (raiseG z0 by_).2.1.length crb) := fun o => keepA qr1
  have rr1 : w4.heap.size < w8.heap.size := bxr.lt
  have qr2 : w8.cell? ⟨w4.heap.size, 2, none⟩ = some (.slice Arc (raiseG z0 by_).2.2.length crc) := bxr.cell 2
  have pr2 : ∀ o, (w8.alloc o).cell? ⟨w4.heap.size, 2, none⟩ = some (.slice Arc (raiseG z0 by_).2.2.length crc) := fun o => keepA qr2
  have rr2 : w4.heap.size < w8.heap.size := bxr.lt
  have qx00 : w8.cell? ⟨w6.heap.size, 0, none⟩ = some (.slice Ax0a (z0).1.length cx0a) := bxx0.cell 0
  have px00 : ∀ o, (w8.alloc o).cell? ⟨w6.heap.size, 0, none⟩ = some (.slice Ax0a (z0).1.length cx0a) := fun o => keepA qx00
  have rx00 : w6.heap.size < w8.heap.size := bxx0.lt
  have qx01 : w8.cell? ⟨w6.heap.size, 1, none⟩ = some (.slice Ax0b (z0).2.1.length cx0b) := bxx0.cell 1
  have px01 : ∀ o, (w8.alloc o).cell? ⟨w6.heap.size, 1, none⟩ = some (.slice Ax0b (z0).2.1.length cx0b) := fun o => keepA qx01
  have rx01 : w6.heap.size < w8.heap.size := bxx0.lt
  have qx02 : w8.cell? ⟨w6.heap.size, 2, none⟩ = some (.slice Ax0c (z0).2.2.length cx0c) := bxx0.cell 2
  have px02 : ∀ o, (w8.alloc o).cell? ⟨w6.heap.size, 2, none⟩ = some (.slice Ax0c (z0).2.2.length cx0c) := fun o => keepA qx02
  have rx02 : w6.heap.size < w8.heap.size := bxx0.lt
  go_wp2_with fail
  clear qP00 pP00 rP00 qP01 pP01 rP01 qP02 pP02 rP02 qr0 pr0 rr0 qr1 pr1 rr1 qr2 pr2 rr2 qx00 px00 rx00 qx01 px01 rx01 qx02 px02 rx02
  have hww9 : Below w.heap.size w (w8.alloc (.cells #[.slice Aga (raiseG z0 by_).1.length cga, .slice Agb (raiseG z0 by_).2.1.length cgb, .slice Agc (raiseG z0 by_).2.2.length cgc] 44)) := below_alloc (Nat.le_refl _) hww8
  have zw9 : w8.heap.size + 1 = (w8.alloc (.cells #[.slice Aga (raiseG z0 by_).1.length cga, .slice Agb (raiseG z0 by_).2.1.length cgb, .slice Agc (raiseG z0 by_).2.2.length cgc] 44)).heap.size := by simp
  replace fr := fr.step (below_alloc (o := (.cells #[.slice Aga (raiseG z0 by_).1.length cga, .slice Agb (raiseG z0 by_).2.1.length cgb, .slice Agc (raiseG z0 by_).2.2.length cgc] 44)) (Nat.le_refl _) (Below.refl _ _))
  replace fx0 := fx0.step (below_alloc (o := (.cells #[.slice Aga (raiseG z0 by_).1.length cga, .slice Agb (raiseG z0 by_).2.1.length cgb, .slice Agc (raiseG z0 by_).2.2.length cgc] 44)) (Nat.le_refl _) (Below.refl _ _))
  replace fg := fg.step (below_alloc (o := (.cells #[.slice Aga (raiseG z0 by_).1.length cga, .slice Agb (raiseG z0 by_).2.1.length cgb, .slice Agc (raiseG z0 by_).2.2.length cgc] 44)) (Nat.le_refl _) (Below.refl _ _))
  replace bxP0 := bxP0.alloc (.cells #[.slice Aga (raiseG z0 by_).1.length cga, .slice Agb (raiseG z0 by_).2.1.length cgb, .slice Agc (raiseG z0 by_).2.2.length cgc] 44)
  replace bxr := bxr.alloc (.cells #[.slice Aga (raiseG z0 by_).1.length cga, .slice Agb (raiseG z0 by_).2.1.length cgb, .slice Agc (raiseG z0 by_).2.2.length cgc] 44)
  replace bxx0 := bxx0.alloc (.cells #[.slice Aga (raiseG z0 by_).1.length cga, .slice Agb (raiseG z0 by_).2.1.length cgb, .slice Agc (raiseG z0 by_).2.2.length cgc] 44)
  have bxg := Box.new w8 44 #[.slice Aga (raiseG z0 by_).1.length cga, .slice Agb (raiseG z0 by_).2.1.length cgb, .slice Agc (raiseG z0 by_).2.2.length cgc]
  generalize (w8.alloc (.cells #[.slice Aga (raiseG z0 by_).1.length cga, .slice Agb (raiseG z0 by_).2.1.length cgb, .slice Agc (raiseG z0 by_).2.2.length cgc] 44)) = w9 at hww9 zw9 fr fx0 fg bxP0 bxr bxx0 bxg ⊢
  refine (eqParity _ _ _ _ _ _ _ _ _ _ (Nat.le_refl _) (og.hold fg).reads (or.hold fr).reads).mono ?_; rintro e w10 ⟨rfl, hbw10⟩
  have zw10 := hbw10.size
  have hww10 := below_then hbw10 hww9.size hww9
  replace fr := fr.step hbw10
  replace fx0 := fx0.step hbw10
  replace fg := fg.step hbw10
  replace bxP0 := bxP0.below hbw10 bxP0.lt
  replace bxr := bxr.below hbw10 bxr.lt
  replace bxx0 := bxx0.below hbw10 bxx0.lt
  replace bxg := bxg.below hbw10 bxg.lt
  rw [eqPar_self]
  have qP00 : w10.cell? ⟨w.heap.size, 0, none⟩ = some (.slice A0a n0a c0a) := bxP0.cell 0
  have pP00 : ∀ o, (w10.alloc o).cell? ⟨w.heap.size, 0, none⟩ = some (.slice A0a n0a c0a) := fun o => keepA qP00
  have rP00 : w.heap.size < w10.heap.size := bxP0.lt
  have qP01 : w10.cell? ⟨w.heap.size, 1, none⟩ = some (.slice A0b n0b c0b) := bxP0.cell 1
  have pP01 : ∀ o, (w10.alloc o).cell? ⟨w.heap.size, 1, none⟩ = some (.slice A0b n0b c0b) := fun o => keepA qP01
  have rP01 : w.heap.size < w10.heap.size := bxP0.lt
  have qP02 : w10.cell? ⟨w.heap.size, 2, none⟩ = some (.slice A0c n0c c0c) := bxP0.cell 2
  have pP02 : ∀ o, (w10.alloc o).cell? ⟨w.heap.size, 2, none⟩ = some (.slice A0c n0c c0c) := fun o => keepA qP02
  have rP02 : w.heap.size < w10.heap.size := bxP0.lt
  have qr0 : w10.cell? ⟨w4.heap.size, 0, none⟩ = some (.slice Ara (raiseG z0 by_).1.length cra) := bxr.cell 0
  have pr0 : ∀ o, (w10.alloc o).cell? ⟨w4.heap.size, 0, none⟩ = some (.slice Ara (raiseG z0 by_).1.length cra) := fun o => keepA qr0
  have rr0 : w4.heap.size < w10.heap.size := bxr.lt
  have qr1 : w10.cell? ⟨w4.heap.size, 1, none⟩ = some (.slice Arb (raiseG z0 by_).2.1.length crb) := bxr.cell 1
  have pr1 : ∀ o, (w10.alloc o).cell? ⟨w4.heap.size, 1, none⟩ = some (.slice Arb (raiseG z0 by_).2.1.length crb) := fun o => keepA qr1
  have rr1 : w4.heap.size < w10.heap.size := bxr.lt
  have qr2 : w10.cell? ⟨w4.heap.size, 2, none⟩ = some (.slice Arc (raiseG z0 by_).2.2.length crc) := bxr.cell 2
  have pr2 : ∀ o, (w10.alloc o).cell? ⟨w4.heap.size, 2, none⟩ = some (.slice Arc (raiseG z0 by_).2.2.length crc) := fun o => keepA qr2
  have rr2 : w4.heap.size < w10.heap.size := bxr.lt
  have qx00 : w10.cell? ⟨w6.heap.size, 0, none⟩ = some (.slice Ax0a (z0).1.length cx0a) := bxx0.cell 0
  have px00 : ∀ o, (w10.alloc o).cell? ⟨w6.heap.size, 0, none⟩ = some (.slice Ax0a (z0).1.length cx0a) := fun o => keepA qx00
  have rx00 : w6.heap.size < w10.heap.size := bxx0.lt
  have qx01 : w10.cell? ⟨w6.heap.size, 1, none⟩ = some (.slice Ax0b (z0).2.1.length cx0b) := bxx0.cell 1
  have px01 : ∀ o, (w10.alloc o).cell? ⟨w6.heap.size, 1, none⟩ = some (.slice Ax0b (z0).2.1.length cx0b) := fun o => keepA qx01
  have rx01 : w6.heap.size < w10.heap.size := bxx0.lt
  have qx02 : w10.cell? ⟨w6.heap.size, 2, none⟩ = some (.slice Ax0c (z0).2.2.length cx0c) := bxx0.cell 2
  have px02 : ∀ o, (w10.alloc o).cell? ⟨w6.heap.size, 2, none⟩ = some (.slice Ax0c (z0).2.2.length cx0c) := fun o => keepA qx02
  have rx02 : w6.heap.size < w10.heap.size := bxx0.lt
  have qg0 : w10.cell? ⟨w8.heap.size, 0, none⟩ = some (.slice Aga (raiseG z0 by_).1.length cga) := bxg.cell 0
  have pg0 : ∀ o, (w10.alloc o).cell? ⟨w8.heap.size, 0, none⟩ = some (.slice Aga (raiseG z0 by_).1.length cga) := fun o => keepA qg0
  have rg0 : w8.heap.size < w10.heap.size := bxg.lt
  have qg1 : w10.cell? ⟨w8.heap.size, 1, none⟩ = some (.slice Agb (raiseG z0 by_).2.1.length cgb) := bxg.cell 1
  have pg1 : ∀ o, (w10.alloc o).cell? ⟨w8.heap.size, 1, none⟩ = some (.slice Agb (raiseG z0 by_).2.1.length cgb) := fun o => keepA qg1
  have rg1 : w8.heap.size < w10.heap.size := bxg.lt
  have qg2 : w10.cell? ⟨w8.heap.size, 2, none⟩ = some (.slice Agc (raiseG z0 by_).2.2.length cgc) := bxg.cell 2
  have pg2 : ∀ o, (w10.alloc o).cell? ⟨w8.heap.size, 2, none⟩ = some (.slice Agc (raiseG z0 by_).2.2.length cgc) := fun o => keepA qg2
  have rg2 : w8.heap.size < w10.heap.size := bxg.lt
  go_wp2_with fail
  clear qP00 pP00 rP00 qP01 pP01 rP01 qP02 pP02 rP02 qr0 pr0 rr0 qr1 pr1 rr1 qr2 pr2 rr2 qx00 px00 rx00 qx01 px01 rx01 qx02 px02 rx02 qg0 pg0 rg0 qg1 pg1 rg1 qg2 pg2 rg2
  have qP00 : w10.cell? ⟨w.heap.size, 0, none⟩ = some (.slice A0a n0a c0a) := bxP0.cell 0
  have qP01 : w10.cell? ⟨w.heap.size, 1, none⟩ = some (.slice A0b n0b c0b) := bxP0.cell 1
  have qP02 : w10.cell? ⟨w.heap.size, 2, none⟩ = some (.slice A0c n0c c0c) := bxP0.cell 2
  have rP0 : w.heap.size < w10.heap.size := bxP0.lt
  have qr0 : w10.cell? ⟨w4.heap.size, 0, none⟩ = some (.slice Ara (raiseG z0 by_).1.length cra) := bxr.cell 0
  have qr1 : w10.cell? ⟨w4.heap.size, 1, none⟩ = some (.slice Arb (raiseG z0 by_).2.1.length crb) := bxr.cell 1
  have qr2 : w10.cell? ⟨w4.heap.size, 2, none⟩ = some (.slice Arc (raiseG z0 by_).2.2.length crc) := bxr.cell 2
  have rr : w4.heap.size < w10.heap.size := bxr.lt
  have qx00 : w10.cell? ⟨w6.heap.size, 0, none⟩ = some (.slice Ax0a (z0).1.length cx0a) := bxx0.cell 0
  have qx01 : w10.cell? ⟨w6.heap.size, 1, none⟩ = some (.slice Ax0b (z0).2.1.length cx0b) := bxx0.cell 1
  have qx02 : w10.cell? ⟨w6.heap.size, 2, none⟩ = some (.slice Ax0c (z0).2.2.length cx0c) := bxx0.cell 2
  have rx0 : w6.heap.size < w10.heap.size := bxx0.lt
  have qg0 : w10.cell? ⟨w8.heap.size, 0, none⟩ = some (.slice Aga (raiseG z0 by_).1.length cga) := bxg.cell 0
  have qg1 : w10.cell? ⟨w8.heap.size, 1, none⟩ = some (.slice Agb (raiseG z0 by_).2.1.length cgb) := bxg.cell 1
  have qg2 : w10.cell? ⟨w8.heap.size, 2, none⟩ = some (.slice Agc (raiseG z0 by_).2.2.length cgc) := bxg.cell 2
  have rg : w8.heap.size < w10.heap.size := bxg.lt
  go_region_held3 (fun w' => w'.cell? ⟨w.heap.size, 0, none⟩ = some (.slice A0a n0a c0a) ∧ w'.cell? ⟨w.heap.size, 1, none⟩ = some (.slice A0b n0b c0b) ∧ w'.cell? ⟨w.heap.size, 2, none⟩ = some (.slice A0c n0c c0c) ∧ w'.cell? ⟨w4.heap.size, 0, none⟩ = some (.slice Ara (raiseG z0 by_).1.length cra) ∧ w'.cell? ⟨w4.heap.size, 1, none⟩ = some (.slice Arb (raiseG z0 by_).2.1.length crb) ∧ w'.cell? ⟨w4.heap.size, 2, none⟩ = some (.slice Arc (raiseG z0 by_).2.2.length crc) ∧ w'.cell? ⟨w6.heap.size, 0, none⟩ = some (.slice Ax0a (z0).1.length cx0a) ∧ w'.cell? ⟨w6.heap.size, 1, none⟩ = some (.slice Ax0b (z0).2.1.length cx0b) ∧ w'.cell? ⟨w6.heap.size, 2, none⟩ = some (.slice Ax0c (z0).2.2.length cx0c) ∧ w'.cell? ⟨w8.heap.size, 0, none⟩ = some (.slice Aga (raiseG z0 by_).1.length cga) ∧ w'.cell? ⟨w8.heap.size, 1, none⟩ = some (.slice Agb (raiseG z0 by_).2.1.length cgb) ∧ w'.cell? ⟨w8.heap.size, 2, none⟩ = some (.slice Agc (raiseG z0 by_).2.2.length cgc))
    (refine ⟨?_, ?_, ?_, ?_, ?_, ?_, ?_, ?_, ?_, ?_, ?_, ?_⟩ <;> repeat (first | with_reducible assumption | with_reducible refine keepD ?_ | with_reducible refine keepA ?_))
    (first
      | (go_at_call 27
         refine (toParity _ _ _ _ _ _ (Nat.le_refl _) (ha0.keep (keeps_below (Below.drew hww10))) hm0).mono ?_; rintro e w11 ⟨vt0a, vt0b, vt0c, rfl, ot0, hbw11⟩
         replace hbw11 := below_undrew hbw11
         obtain ⟨At0a, ct0a, At0b, ct0b, At0c, ct0c, rfl, rfl, rfl⟩ := ot0.form
         have zw11 := hbw11.size
         have hww11 := below_then hbw11 hww10.size hww10
         replace fr := fr.step hbw11
         replace fx0 := fx0.step hbw11
         replace fg := fg.step hbw11
         replace bxP0 := bxP0.below hbw11 bxP0.lt
         replace bxr := bxr.below hbw11 bxr.lt
         replace bxx0 := bxx0.below hbw11 bxx0.lt
         replace bxg := bxg.below hbw11 bxg.lt
         have ft0 := Far.refl w10.heap.size w11
         have qP00 : w11.cell? ⟨w.heap.size, 0, none⟩ = some (.slice A0a n0a c0a) := bxP0.cell 0
         have qP01 : w11.cell? ⟨w.heap.size, 1, none⟩ = some (.slice A0b n0b c0b) := bxP0.cell 1
         have qP02 : w11.cell? ⟨w.heap.size, 2, none⟩ = some (.slice A0c n0c c0c) := bxP0.cell 2
         have rP0 : w.heap.size < w11.heap.size := bxP0.lt
         have qr0 : w11.cell? ⟨w4.heap.size, 0, none⟩ = some (.slice Ara (raiseG z0 by_).1.length cra) := bxr.cell 0
         have qr1 : w11.cell? ⟨w4.heap.size, 1, none⟩ = some (.slice Arb (raiseG z0 by_).2.1.length crb) := bxr.cell 1
         have qr2 : w11.cell? ⟨w4.heap.size, 2, none⟩ = some (.slice Arc (raiseG z0 by_).2.2.length crc) := bxr.cell 2
         have rr : w4.heap.size < w11.heap.size := bxr.lt
         have qx00 : w11.cell? ⟨w6.heap.size, 0, none⟩ = some (.slice Ax0a (z0).1.length cx0a) := bxx0.cell 0
         have qx01 : w11.cell? ⟨w6.heap.size, 1, none⟩ = some (.slice Ax0b (z0).2.1.length cx0b) := bxx0.cell 1
         have qx02 : w11.cell? ⟨w6.heap.size, 2, none⟩ = some (.slice Ax0c (z0).2.2.length cx0c) := bxx0.cell 2
         have rx0 : w6.heap.size < w11.heap.size := bxx0.lt
         have qg0 : w11.cell? ⟨w8.heap.size, 0, none⟩ = some (.slice Aga (raiseG z0 by_).1.length cga) := bxg.cell 0
         have qg1 : w11.cell? ⟨w8.heap.size, 1, none⟩ = some (.slice Agb (raiseG z0 by_).2.1.length cgb) := bxg.cell 1
         have qg2 : w11.cell? ⟨w8.heap.size, 2, none⟩ = some (.slice Agc (raiseG z0 by_).2.2.length cgc) := bxg.cell 2
         have rg : w8.heap.size < w11.heap.size := bxg.lt)
      | (go_at_call 29
         refine (eqParity _ _ _ _ _ _ _ _ _ _ (Nat.le_refl _) (ox0.hold fx0).reads (ot0.hold ft0).reads).mono ?_; rintro e w12 ⟨rfl, hbw12⟩
         have zw12 := hbw12.size
         have hww12 := below_then hbw12 hww11.size hww11
         replace fr := fr.step hbw12
         replace fx0 := fx0.step hbw12
         replace fg := fg.step hbw12
         replace ft0 := ft0.step hbw12
         replace bxP0 := bxP0.below hbw12 bxP0.lt
         replace bxr := bxr.below hbw12 bxr.lt
         replace bxx0 := bxx0.below hbw12 bxx0.lt
         replace bxg := bxg.below hbw12 bxg.lt
         rw [eqPar_self]
         have qP00 : w12.cell? ⟨w.heap.size, 0, none⟩ = some (.slice A0a n0a c0a) := bxP0.cell 0
         have qP01 : w12.cell? ⟨w.heap.size, 1, none⟩ = some (.slice A0b n0b c0b) := bxP0.cell 1
         have qP02 : w12.cell? ⟨w.heap.size, 2, none⟩ = some (.slice A0c n0c c0c) := bxP0.cell 2
         have rP0 : w.heap.size < w12.heap.size := bxP0.lt
         have qr0 : w12.cell? ⟨w4.heap.size, 0, none⟩ = some (.slice Ara (raiseG z0 by_).1.length cra) := bxr.cell 0
         have qr1 : w12.cell? ⟨w4.heap.size, 1, none⟩ = some (.slice Arb (raiseG z0 by_).2.1.length crb) := bxr.cell 1
         have qr2 : w12.cell? ⟨w4.heap.size, 2, none⟩ = some (.slice Arc (raiseG z0 by_).2.2.length crc) := bxr.cell 2
         have rr : w4.heap.size < w12.heap.size := bxr.lt
         have qx00 : w12.cell? ⟨w6.heap.size, 0, none⟩ = some (.slice Ax0a (z0).1.length cx0a) := bxx0.cell 0
         have qx01 : w12.cell? ⟨w6.heap.size, 1, none⟩ = some (.slice Ax0b (z0).2.1.length cx0b) := bxx0.cell 1
         have qx02 : w12.cell? ⟨w6.heap.size, 2, none⟩ = some (.slice Ax0c (z0).2.2.length cx0c) := bxx0.cell 2
         have rx0 : w6.heap.size < w12.heap.size := bxx0.lt
         have qg0 : w12.cell? ⟨w8.heap.size, 0, none⟩ = some (.slice Aga (raiseG z0 by_).1.length cga) := bxg.cell 0
         have qg1 : w12.cell? ⟨w8.heap.size, 1, none⟩ = some (.slice Agb (raiseG z0 by_).2.1.length cgb) := bxg.cell 1
         have qg2 : w12.cell? ⟨w8.heap.size, 2, none⟩ = some (.slice Agc (raiseG z0 by_).2.2.length cgc) := bxg.cell 2
         have rg : w8.heap.size < w12.heap.size := bxg.lt))
  clear qP00 qP01 qP02 rP0 qr0 qr1 qr2 rr qx00 qx01 qx02 rx0 qg0 qg1 qg2 rg
  clear ot0 ft0
  have qP00 : w12.cell? ⟨w.heap.size, 0, none⟩ = some (.slice A0a n0a c0a) := bxP0.cell 0
  have pP00 : ∀ o, (w12.alloc o).cell? ⟨w.heap.size, 0, none⟩ = some (.slice A0a n0a c0a) := fun o => keepA qP00
  have rP00 : w.heap.size < w12.heap.size := bxP0.lt
  have qP01 : w12.cell? ⟨w.heap.size, 1, none⟩ = some (.slice A0b n0b c0b) := bxP0.cell 1
  have pP01 : ∀ o, (w12.alloc o).cell? ⟨w.heap.size, 1, none⟩ = some (.slice A0b n0b c0b) := fun o => keepA qP01
  have rP01 : w.heap.size < w12.heap.size := bxP0.lt
  have qP02 : w12.cell? ⟨w.heap.size, 2, none⟩ = some (.slice A0c n0c c0c) := bxP0.cell 2
  have pP02 : ∀ o, (w12.alloc o).cell? ⟨w.heap.size, 2, none⟩ = some (.slice A0c n0c c0c) := fun o => keepA qP02
  have rP02 : w.heap.size < w12.heap.size := bxP0.lt
  have qr0 : w12.cell? ⟨w4.heap.size, 0, none⟩ = some (.slice Ara (raiseG z0 by_).1.length cra) := bxr.cell 0
  have pr0 : ∀ o, (w12.alloc o).cell? ⟨w4.heap.size, 0, none⟩ = some (.slice Ara (raiseG z0 by_).1.length cra) := fun o => keepA qr0
  have rr0 : w4.heap.size < w12.heap.size := bxr.lt
  have qr1 : w12.cell? ⟨w4.heap.size, 1, none⟩ = some (.slice Arb (raiseG z0 by_).2.1.length crb) := bxr.cell 1
  have pr1 : ∀ o, (w12.alloc o).cell? ⟨w4.heap.size, 1, none⟩ = some (.slice Arb (raiseG z0 by_).2.1.length crb) := fun o => keepA qr1
  have rr1 : w4.heap.size < w12.heap.size := bxr.lt
  have qr2 : w12.cell? ⟨w4.heap.size, 2, none⟩ = some (.slice Arc (raiseG z0 by_).2.2.length crc) := bxr.cell 2
  have pr2 : ∀ o, (w12.alloc o).cell? ⟨w4.heap.size, 2, none⟩ = some (.slice Arc (raiseG z0 by_).2.2.length crc) := fun o => keepA qr2
  have rr2 : w4.heap.size < w12.heap.size := bxr.lt
  have qx00 : w12.cell? ⟨w6.heap.size, 0, none⟩ = some (.slice Ax0a (z0).1.length cx0a) := bxx0.cell 0
  have px00 : ∀ o, (w12.alloc o).cell? ⟨w6.heap.size, 0, none⟩ = some (.slice Ax0a (z0).1.length cx0a) := fun o => keepA qx00
  have rx00 : w6.heap.size < w12.heap.size := bxx0.lt
  have qx01 : w12.cell? ⟨w6.heap.size, 1, none⟩ = some (.slice Ax0b (z0).2.1.length cx0b) := bxx0.cell 1
  have px01 : ∀ o, (w12.alloc o).cell? ⟨w6.heap.size, 1, none⟩ = some (.slice Ax0b (z0).2.1.length cx0b) := fun o => keepA qx01
  have rx01 : w6.heap.size < w12.heap.size := bxx0.lt
  have qx02 : w12.cell? ⟨w6.heap.size, 2, none⟩ = some (.slice Ax0c (z0).2.2.length cx0c) := bxx0.cell 2
  have px02 : ∀ o, (w12.alloc o).cell? ⟨w6.heap.size, 2, none⟩ = some (.slice Ax0c (z0).2.2.length cx0c) := fun o => keepA qx02
  have rx02 : w6.heap.size < w12.heap.size := bxx0.lt
  have qg0 : w12.cell? ⟨w8.heap.size, 0, none⟩ = some (.slice Aga (raiseG z0 by_).1.length cga) := bxg.cell 0
  have pg0 : ∀ o, (w12.alloc o).cell? ⟨w8.heap.size, 0, none⟩ = some (.slice Aga (raiseG z0 by_).1.length cga) := fun o => keepA qg0
  have rg0 : w8.heap.size < w12.heap.size := bxg.lt
  have qg1 : w12.cell? ⟨w8.heap.size, 1, none⟩ = some (.slice Agb (raiseG z0 by_).2.1.length cgb) := bxg.cell 1
  have pg1 : ∀ o, (w12.alloc o).cell? ⟨w8.heap.size, 1, none⟩ = some (.slice Agb (raiseG z0 by_).2.1.length cgb) := fun o => keepA qg1
  have rg1 : w8.heap.size < w12.heap.size := bxg.lt
  have qg2 : w12.cell? ⟨w8.heap.size, 2, none⟩ = some (.slice Agc (raiseG z0 by_).2.2.length cgc) := bxg.cell 2
  have pg2 : ∀ o, (w12.alloc o).cell? ⟨w8.heap.size, 2, none⟩ = some (.slice Agc (raiseG z0 by_).2.2.length cgc) := fun o => keepA qg2
  have rg2 : w8.heap.size < w12.heap.size := bxg.lt
  go_wp2_with fail
  clear qP00 pP00 rP00 qP01 pP01 rP01 qP02 pP02 rP02 qr0 pr0 rr0 qr1 pr1 rr1 qr2 pr2 rr2 qx00 px00 rx00 qx01 px01 rx01 qx02 px02 rx02 qg0 pg0 rg0 qg1 pg1 rg1 qg2 pg2 rg2
  refine (markParityU _ _ _ _ (1) _ _ _ (by omega) ox0 fx0 (by omega) (by omega)).mono ?_; rintro e w13 ⟨rfl, onx0, chw13⟩
  have zw13 := chw13.size
  have blw13 : Below w5.heap.size w12 w13 := chw13.below (by omega) (fun x h => h.1)
  have hww13 := below_then blw13 (by omega) hww12
  replace fr := fr.mark chw13 (by omega)
  replace fg := fg.mark chw13 (by omega)
  clear ox0 fx0; have ox0 := onx0; have fx0 := Far.refl w5.heap.size w13
  replace bxP0 := bxP0.chg chw13 (by omega)
  replace bxr := bxr.chg chw13 (by omega)
  replace bxx0 := bxx0.chg chw13 (by omega)
  replace bxg := bxg.chg chw13 (by omega)
  clear ox0 fx0
  clear bxx0
  have qP00 : w13.cell? ⟨w.heap.size, 0, none⟩ = some (.slice A0a n0a c0a) := bxP0.cell 0
  have pP00 : ∀ o, (w13.alloc o).cell? ⟨w.heap.size, 0, none⟩ = some (.slice A0a n0a c0a) := fun o => keepA qP00
  have rP00 : w.heap.size < w13.heap.size := bxP0.lt
  have qP01 : w13.cell? ⟨w.heap.size, 1, none⟩ = some (.slice A0b n0b c0b) := bxP0.cell 1
  have pP01 : ∀ o, (w13.alloc o).cell? ⟨w.heap.size, 1, none⟩ = some (.slice A0b n0b c0b) := fun o => keepA qP01
  have rP01 : w.heap.size < w13.heap.size := bxP0.lt
  have qP02 : w13.cell? ⟨w.heap.size, 2, none⟩ = some (.slice A0c n0c c0c) := bxP0.cell 2
  have pP02 : ∀ o, (w13.alloc o).cell? ⟨w.heap.size, 2, none⟩ = some (.slice A0c n0c c0c) := fun o => keepA qP02
  have rP02 : w.heap.size < w13.heap.size := bxP0.lt
  have qr0 : w13.cell? ⟨w4.heap.size, 0, none⟩ = some (.slice Ara (raiseG z0 by_).1.length cra) := bxr.cell 0
  have pr0 : ∀ o, (w13.alloc o).cell? ⟨w4.heap.size, 0, none⟩ = some (.slice Ara (raiseG z0 by_).1.length cra) := fun o => keepA qr0
  have rr0 : w4.heap.size < w13.heap.size := bxr.lt
  have qr1 : w13.cell? ⟨w4.heap.size, 1, none⟩ = some (.slice Arb (raiseG z0 by_).2.1.length crb) := bxr.cell 1
  have pr1 : ∀ o, (w13.alloc o).cell? ⟨w4.heap.size, 1, none⟩ = some (.slice Arb (raiseG z0 by_).2.1.length crb) := fun o => keepA qr1
  have rr1 : w4.heap.size < w13.heap.size := bxr.lt
  have qr2 : w13.cell? ⟨w4.heap.size, 2, none⟩ = some (.slice Arc (raiseG z0 by_).2.2.length crc) := bxr.cell 2
  have pr2 : ∀ o, (w13.alloc o).cell? ⟨w4.heap.size, 2, none⟩ = some (.slice Arc (raiseG z0 by_).2.2.length crc) := fun o => keepA qr2
  have rr2 : w4.heap.size < w13.heap.size := bxr.lt
  have qg0 : w13.cell? ⟨w8.heap.size, 0, none⟩ = some (.slice Aga (raiseG z0 by_).1.length cga) := bxg.cell 0
  have pg0 : ∀ o, (w13.alloc o).cell? ⟨w8.heap.size, 0, none⟩ = some (.slice Aga (raiseG z0 by_).1.length cga) := fun o => keepA qg0
  have rg0 : w8.heap.size < w13.heap.size := bxg.lt
  have qg1 : w13.cell? ⟨w8.heap.size, 1, none⟩ = some (.slice Agb (raiseG z0 by_).2.1.length cgb) := bxg.cell 1
  have pg1 : ∀ o, (w13.alloc o).cell? ⟨w8.heap.size, 1, none⟩ = some (.slice Agb (raiseG z0 by_).2.1.length cgb) := fun o => keepA qg1
  have rg1 : w8.heap.size < w13.heap.size := bxg.lt
  have qg2 : w13.cell? ⟨w8.heap.size, 2, none⟩ = some (.slice Agc (raiseG z0 by_).2.2.length cgc) := bxg.cell 2
  have pg2 : ∀ o, (w13.alloc o).cell? ⟨w8.heap.size, 2, none⟩ = some (.slice Agc (raiseG z0 by_).2.2.length cgc) := fun o => keepA qg2
  have rg2 : w8.heap.size < w13.heap.size := bxg.lt
  go_wp2_with fail
  clear qP00 pP00 rP00 qP01 pP01 rP01 qP02 pP02 rP02 qr0 pr0 rr0 qr1 pr1 rr1 qr2 pr2 rr2 qg0 pg0 rg0 qg1 pg1 rg1 qg2 pg2 rg2
  refine (eqParity _ _ _ _ _ _ _ _ _ _ (Nat.le_refl _) (og.hold fg).reads (or.hold fr).reads).mono ?_; rintro e w14 ⟨rfl, hbw14⟩
  have zw14 := hbw14.size
  have hww14 := below_then hbw14 hww13.size hww13
  replace fr := fr.step hbw14
  replace fg := fg.step hbw14
  replace bxP0 := bxP0.below hbw14 bxP0.lt
  replace bxr := bxr.below hbw14 bxr.lt
  replace bxg := bxg.below hbw14 bxg.lt
  rw [eqPar_self]
  have qP00 : w14.cell? ⟨w.heap.size, 0, none⟩ = some (.slice A0a n0a c0a) := bxP0.cell 0
  have pP00 : ∀ o, (w14.alloc o).cell? ⟨w.heap.size, 0, none⟩ = some (.slice A0a n0a c0a) := fun o => keepA qP00
  have rP00 : w.heap.size < w14.heap.size := bxP0.lt
  have qP01 : w14.cell? ⟨w.heap.size, 1, none⟩ = some (.slice A0b n0b c0b) := bxP0.cell 1
  have pP01 : ∀ o, (w14.alloc o).cell? ⟨w.heap.size, 1, none⟩ = some (.slice A0b n0b c0b) := fun o => keepA qP01
  have rP01 : w.heap.size < w14.heap.size := bxP0.lt
  have qP02 : w14.cell? ⟨w.heap.size, 2, none⟩ = some (.slice A0c n0c c0c) := bxP0.cell 2
  have pP02 : ∀ o, (w14.alloc o).cell? ⟨w.heap.size, 2, none⟩ = some (.slice A0c n0c c0c) := fun o => keepA qP02
  have rP02 : w.heap.size < w14.heap.size := bxP0.lt
  have qr0 : w14.cell? ⟨w4.heap.size, 0, none⟩ = some (.slice Ara (raiseG z0 by_).1.length cra) := bxr.cell 0
  have pr0 : ∀ o, (w14.alloc o).cell? ⟨w4.heap.size, 0, none⟩ = some (.slice Ara (raiseG z0 by_).1.length cra) := fun o => keepA qr0
  have rr0 : w4.heap.size < w14.heap.size := bxr.lt
  have qr1 : w14.cell? ⟨w4.heap.size, 1, none⟩ = some (.slice Arb (raiseG z0 by_).2.1.length crb) := bxr.cell 1
  have pr1 : ∀ o, (w14.alloc o).cell? ⟨w4.heap.size, 1, none⟩ = some (.slice Arb (raiseG z0 by_).2.1.length crb) := fun o => keepA qr1
  have rr1 : w4.heap.size < w14.heap.size := bxr.lt
  have qr2 : w14.cell? ⟨w4.heap.size, 2, none⟩ = some (.slice Arc (raiseG z0 by_).2.2.length crc) := bxr.cell 2
  have pr2 : ∀ o, (w14.alloc o).cell? ⟨w4.heap.size, 2, none⟩ = some (.slice Arc (raiseG z0 by_).2.2.length crc) := fun o => keepA qr2
  have rr2 : w4.heap.size < w14.heap.size := bxr.lt
  have qg0 : w14.cell? ⟨w8.heap.size, 0, none⟩ = some (.slice Aga (raiseG z0 by_).1.length cga) := bxg.cell 0
  have pg0 : ∀ o, (w14.alloc o).cell? ⟨w8.heap.size, 0, none⟩ = some (.slice Aga (raiseG z0 by_).1.length cga) := fun o => keepA qg0
  have rg0 : w8.heap.size < w14.heap.size := bxg.lt
  have qg1 : w14.cell? ⟨w8.heap.size, 1, none⟩ = some (.slice Agb (raiseG z0 by_).2.1.length cgb) := bxg.cell 1
  have pg1 : ∀ o, (w14.alloc o).cell? ⟨w8.heap.size, 1, none⟩ = some (.slice Agb (raiseG z0 by_).2.1.length cgb) := fun o => keepA qg1
  have rg1 : w8.heap.size < w14.heap.size := bxg.lt
  have qg2 : w14.cell? ⟨w8.heap.size, 2, none⟩ = some (.slice Agc (raiseG z0 by_).2.2.length cgc) := bxg.cell 2
  have pg2 : ∀ o, (w14.alloc o).cell? ⟨w8.heap.size, 2, none⟩ = some (.slice Agc (raiseG z0 by_).2.2.length cgc) := fun o => keepA qg2
  have rg2 : w8.heap.size < w14.heap.size := bxg.lt
  go_wp2_with fail
  clear qP00 pP00 rP00 qP01 pP01 rP01 qP02 pP02 rP02 qr0 pr0 rr0 qr1 pr1 rr1 qr2 pr2 rr2 qg0 pg0 rg0 qg1 pg1 rg1 qg2 pg2 rg2
  refine (markParityU _ _ _ _ 1 _ _ _ (by omega) og fg (by omega) (by omega)).mono ?_; rintro e w15 ⟨rfl, ong, chw15⟩
  have zw15 := chw15.size
  have blw15 : Below w7.heap.size w14 w15 := chw15.below (by omega) (fun x h => h.1)
  have hww15 := below_then blw15 (by omega) hww14
  replace fr := fr.mark chw15 (by omega)
  clear og fg; have og := ong; have fg := Far.refl w7.heap.size w15
  replace bxP0 := bxP0.chg chw15 (by omega)
  replace bxr := bxr.chg chw15 (by omega)
  replace bxg := bxg.chg chw15 (by omega)
  have qP00 : w15.cell? ⟨w.heap.size, 0, none⟩ = some (.slice A0a n0a c0a) := bxP0.cell 0
  have pP00 : ∀ o, (w15.alloc o).cell? ⟨w.heap.size, 0, none⟩ = some (.slice A0a n0a c0a) := fun o => keepA qP00
  have rP00 : w.heap.size < w15.heap.size := bxP0.lt
  have qP01 : w15.cell? ⟨w.heap.size, 1, none⟩ = some (.slice A0b n0b c0b) := bxP0.cell 1
  have pP01 : ∀ o, (w15.alloc o).cell? ⟨w.heap.size, 1, none⟩ = some (.slice A0b n0b c0b) := fun o => keepA qP01
  have rP01 : w.heap.size < w15.heap.size := bxP0.lt
  have qP02 : w15.cell? ⟨w.heap.size, 2, none⟩ = some (.slice A0c n0c c0c) := bxP0.cell 2
  have pP02 : ∀ o, (w15.alloc o).cell? ⟨w.heap.size, 2, none⟩ = some (.slice A0c n0c c0c) := fun o => keepA qP02
  have rP02 : w.heap.size < w15.heap.size := bxP0.lt
  have qr0 : w15.cell? ⟨w4.heap.size, 0, none⟩ = some (.slice Ara (raiseG z0 by_).1.length cra) := bxr.cell 0
  have pr0 : ∀ o, (w15.alloc o).cell? ⟨w4.heap.size, 0, none⟩ = some (.slice Ara (raiseG z0 by_).1.length cra) := fun o => keepA qr0
  have rr0 : w4.heap.size < w15.heap.size := bxr.lt
  have qr1 : w15.cell? ⟨w4.heap.size, 1, none⟩ = some (.slice Arb (raiseG z0 by_).2.1.length crb) := bxr.cell 1
  have pr1 : ∀ o, (w15.alloc o).cell? ⟨w4.heap.size, 1, none⟩ = some (.slice Arb (raiseG z0 by_).2.1.length crb) := fun o => keepA qr1
  have rr1 : w4.heap.size < w15.heap.size := bxr.lt
  have qr2 : w15.cell? ⟨w4.heap.size, 2, none⟩ = some (.slice Arc (raiseG z0 by_).2.2.length crc) := bxr.cell 2
  have pr2 : ∀ o, (w15.alloc o).cell? ⟨w4.heap.size, 2, none⟩ = some (.slice Arc (raiseG z0 by_).2.2.length crc) := fun o => keepA qr2
  have rr2 : w4.heap.size < w15.heap.size := bxr.lt
  have qg0 : w15.cell? ⟨w8.heap.size, 0, none⟩ = some (.slice Aga (raiseG z0 by_).1.length cga) := bxg.cell 0
  have pg0 : ∀ o, (w15.alloc o).cell? ⟨w8.heap.size, 0, none⟩ = some (.slice Aga (raiseG z0 by_).1.length cga) := fun o => keepA qg0
  have rg0 : w8.heap.size < w15.heap.size := bxg.lt
  have qg1 : w15.cell? ⟨w8.heap.size, 1, none⟩ = some (.slice Agb (raiseG z0 by_).2.1.length cgb) := bxg.cell 1
  have pg1 : ∀ o, (w15.alloc o).cell? ⟨w8.heap.size, 1, none⟩ = some (.slice Agb (raiseG z0 by_).2.1.length cgb) := fun o => keepA qg1
  have rg1 : w8.heap.size < w15.heap.size := bxg.lt
  have qg2 : w15.cell? ⟨w8.heap.size, 2, none⟩ = some (.slice Agc (raiseG z0 by_).2.2.length cgc) := bxg.cell 2
  have pg2 : ∀ o, (w15.alloc o).cell? ⟨w8.heap.size, 2, none⟩ = some (.slice Agc (raiseG z0 by_).2.2.length cgc) := fun o => keepA qg2
  have rg2 : w8.heap.size < w15.heap.size := bxg.lt
  go_wp2_with fail
  clear qP00 pP00 rP00 qP01 pP01 rP01 qP02 pP02 rP02 qr0 pr0 rr0 qr1 pr1 rr1 qr2 pr2 rr2 qg0 pg0 rg0 qg1 pg1 rg1 qg2 pg2 rg2
  refine (heldParity _ _ _ (raiseG z0 by_) 1 _ _ (Nat.le_refl _) (og.hold fg).reads (by omega) (by omega)).mono ?_; rintro e w16 ⟨rfl, hbw16⟩
  have zw16 := hbw16.size
  have hww16 := below_then hbw16 hww15.size hww15
  replace fr := fr.step hbw16
  replace fg := fg.step hbw16
  replace bxP0 := bxP0.below hbw16 bxP0.lt
  replace bxr := bxr.below hbw16 bxr.lt
  replace bxg := bxg.below hbw16 bxg.lt
  have qP00 : w16.cell? ⟨w.heap.size, 0, none⟩ = some (.slice A0a n0a c0a) := bxP0.cell 0
  have pP00 : ∀ o, (w16.alloc o).cell? ⟨w.heap.size, 0, none⟩ = some (.slice A0a n0a c0a) := fun o => keepA qP00
  have rP00 : w.heap.size < w16.heap.size := bxP0.lt
  have qP01 : w16.cell? ⟨w.heap.size, 1, none⟩ = some (.slice A0b n0b c0b) := bxP0.cell 1
  have pP01 : ∀ o, (w16.alloc o).cell? ⟨w.heap.size, 1, none⟩ = some (.slice A0b n0b c0b) := fun o => keepA qP01
  have rP01 : w.heap.size < w16.heap.size := bxP0.lt
  have qP02 : w16.cell? ⟨w.heap.size, 2, none⟩ = some (.slice A0c n0c c0c) := bxP0.cell 2
  have pP02 : ∀ o, (w16.alloc o).cell? ⟨w.heap.size, 2, none⟩ = some (.slice A0c n0c c0c) := fun o => keepA qP02
  have rP02 : w.heap.size < w16.heap.size := bxP0.lt
  have qr0 : w16.cell? ⟨w4.heap.size, 0, none⟩ = some (.slice Ara (raiseG z0 by_).1.length cra) := bxr.cell 0
  have pr0 : ∀ o, (w16.alloc o).cell? ⟨w4.heap.size, 0, none⟩ = some (.slice Ara (raiseG z0 by_).1.length cra) := fun o => keepA qr0
  have rr0 : w4.heap.size < w16.heap.size := bxr.lt
  have qr1 : w16.cell? ⟨w4.heap.size, 1, none⟩ = some (.slice Arb (raiseG z0 by_).2.1.length crb) := bxr.cell 1
  have pr1 : ∀ o, (w16.alloc o).cell? ⟨w4.heap.size, 1, none⟩ = some (.slice Arb (raiseG z0 by_).2.1.length crb) := fun o => keepA qr1
  have rr1 : w4.heap.size < w16.heap.size := bxr.lt
  have qr2 : w16.cell? ⟨w4.heap.size, 2, none⟩ = some (.slice Arc (raiseG z0 by_).2.2.length crc) := bxr.cell 2
  have pr2 : ∀ o, (w16.alloc o).cell? ⟨w4.heap.size, 2, none⟩ = some (.slice Arc (raiseG z0 by_).2.2.length crc) := fun o => keepA qr2
  have rr2 : w4.heap.size < w16.heap.size := bxr.lt
  have qg0 : w16.cell? ⟨w8.heap.size, 0, none⟩ = some (.slice Aga (raiseG z0 by_).1.length cga) := bxg.cell 0
  have pg0 : ∀ o, (w16.alloc o).cell? ⟨w8.heap.size, 0, none⟩ = some (.slice Aga (raiseG z0 by_).1.length cga) := fun o => keepA qg0
  have rg0 : w8.heap.size < w16.heap.size := bxg.lt
  have qg1 : w16.cell? ⟨w8.heap.size, 1, none⟩ = some (.slice Agb (raiseG z0 by_).2.1.length cgb) := bxg.cell 1
  have pg1 : ∀ o, (w16.alloc o).cell? ⟨w8.heap.size, 1, none⟩ = some (.slice Agb (raiseG z0 by_).2.1.length cgb) := fun o => keepA qg1
  have rg1 : w8.heap.size < w16.heap.size := bxg.lt
  have qg2 : w16.cell? ⟨w8.heap.size, 2, none⟩ = some (.slice Agc (raiseG z0 by_).2.2.length cgc) := bxg.cell 2
  have pg2 : ∀ o, (w16.alloc o).cell? ⟨w8.heap.size, 2, none⟩ = some (.slice Agc (raiseG z0 by_).2.2.length cgc) := fun o => keepA qg2
  have rg2 : w8.heap.size < w16.heap.size := bxg.lt
  go_wp2_with fail
  clear qP00 pP00 rP00 qP01 pP01 rP01 qP02 pP02 rP02 qr0 pr0 rr0 qr1 pr1 rr1 qr2 pr2 rr2 qg0 pg0 rg0 qg1 pg1 rg1 qg2 pg2 rg2
  refine (toParity _ _ _ _ _ _ (Nat.le_refl _) (ha0.keep (keeps_below hww16)) hm0).mono ?_; rintro e w17 ⟨vs0a, vs0b, vs0c, rfl, os0, hbw17⟩
  obtain ⟨As0a, cs0a, As0b, cs0b, As0c, cs0c, rfl, rfl, rfl⟩ := os0.form
  have zw17 := hbw17.size
  have hww17 := below_then hbw17 hww16.size hww16
  replace fr := fr.step hbw17
  replace fg := fg.step hbw17
  replace bxP0 := bxP0.below hbw17 bxP0.lt
  replace bxr := bxr.below hbw17 bxr.lt
  replace bxg := bxg.below hbw17 bxg.lt
  have fs0 := Far.refl w16.heap.size w17
  have qP00 : w17.cell? ⟨w.heap.size, 0, none⟩ = some (.slice A0a n0a c0a) := bxP0.cell 0
  have pP00 : ∀ o, (w17.alloc o).cell? ⟨w.heap.size, 0, none⟩ = some (.slice A0a n0a c0a) := fun o => keepA qP00
  have rP00 : w.heap.size < w17.heap.size := bxP0.lt
  have qP01 : w17.cell? ⟨w.heap.size, 1, none⟩ = some (.slice A0b n0b c0b) := bxP0.cell 1
  have pP01 : ∀ o, (w17.alloc o).cell? ⟨w.heap.size, 1, none⟩ = some (.slice A0b n0b c0b) := fun o => keepA qP01
  have rP01 : w.heap.size < w17.heap.size := bxP0.lt
  have qP02 : w17.cell? ⟨w.heap.size, 2, none⟩ = some (.slice A0c n0c c0c) := bxP0.cell 2
  have pP02 : ∀ o, (w17.alloc o).cell? ⟨w.heap.size, 2, none⟩ = some (.slice A0c n0c c0c) := fun o => keepA qP02
  have rP02 : w.heap.size < w17.heap.size := bxP0.lt
  have qr0 : w17.cell? ⟨w4.heap.size, 0, none⟩ = some (.slice Ara (raiseG z0 by_).1.length cra) := bxr.cell 0
  have pr0 : ∀ o, (w17.alloc o).cell? ⟨w4.heap.size, 0, none⟩ = some (.slice Ara (raiseG z0 by_).1.length cra) := fun o => keepA qr0
  have rr0 : w4.heap.size < w17.heap.size := bxr.lt
  have qr1 : w17.cell? ⟨w4.heap.size, 1, none⟩ = some (.slice Arb (raiseG z0 by_).2.1.length crb) := bxr.cell 1
  have pr1 : ∀ o, (w17.alloc o).cell? ⟨w4.heap.size, 1, none⟩ = some (.slice Arb (raiseG z0 by_).2.1.length crb) := fun o => keepA qr1
  have rr1 : w4.heap.size < w17.heap.size := bxr.lt
  have qr2 : w17.cell? ⟨w4.heap.size, 2, none⟩ = some (.slice Arc (raiseG z0 by_).2.2.length crc) := bxr.cell 2
  have pr2 : ∀ o, (w17.alloc o).cell? ⟨w4.heap.size, 2, none⟩ = some (.slice Arc (raiseG z0 by_).2.2.length crc) := fun o => keepA qr2
  have rr2 : w4.heap.size < w17.heap.size := bxr.lt
  have qg0 : w17.cell? ⟨w8.heap.size, 0, none⟩ = some (.slice Aga (raiseG z0 by_).1.length cga) := bxg.cell 0
  have pg0 : ∀ o, (w17.alloc o).cell? ⟨w8.heap.size, 0, none⟩ = some (.slice Aga (raiseG z0 by_).1.length cga) := fun o => keepA qg0
  have rg0 : w8.heap.size < w17.heap.size := bxg.lt
  have qg1 : w17.cell? ⟨w8.heap.size, 1, none⟩ = some (.slice Agb (raiseG z0 by_).2.1.length cgb) := bxg.cell 1
  have pg1 : ∀ o, (w17.alloc o).cell? ⟨w8.heap.size, 1, none⟩ = some (.slice Agb (raiseG z0 by_).2.1.length cgb) := fun o => keepA qg1
  have rg1 : w8.heap.size < w17.heap.size := bxg.lt
  have qg2 : w17.cell? ⟨w8.heap.size, 2, none⟩ = some (.slice Agc (raiseG z0 by_).2.2.length cgc) := bxg.cell 2
  have pg2 : ∀ o, (w17.alloc o).cell? ⟨w8.heap.size, 2, none⟩ = some (.slice Agc (raiseG z0 by_).2.2.length cgc) := fun o => keepA qg2
  have rg2 : w8.heap.size < w17.heap.size := bxg.lt
  go_wp2_with fail
  clear qP00 pP00 rP00 qP01 pP01 rP01 qP02 pP02 rP02 qr0 pr0 rr0 qr1 pr1 rr1 qr2 pr2 rr2 qg0 pg0 rg0 qg1 pg1 rg1 qg2 pg2 rg2
  refine (implRaisedGame _ _ _ _ _ _ _ (Nat.le_refl _) (os0.hold fs0).reads).mono ?_; rintro e w18 ⟨vha, vhb, vhc, rfl, oh, hbw18⟩
  obtain ⟨Aha, cha, Ahb, chb, Ahc, chc, rfl, rfl, rfl⟩ := oh.form
  have zw18 := hbw18.size
  have hww18 := below_then hbw18 hww17.size hww17
  replace fr := fr.step hbw18
  replace fg := fg.step hbw18
  replace fs0 := fs0.step hbw18
  replace bxP0 := bxP0.below hbw18 bxP0.lt
  replace bxr := bxr.below hbw18 bxr.lt
  replace bxg := bxg.below hbw18 bxg.lt
  have fh := Far.refl w17.heap.size w18
  clear os0 fs0
  have qP00 : w18.cell? ⟨w.heap.size, 0, none⟩ = some (.slice A0a n0a c0a) := bxP0.cell 0
  have pP00 : ∀ o, (w18.alloc o).cell? ⟨w.heap.size, 0, none⟩ = some (.slice A0a n0a c0a) := fun o => keepA qP00
  have rP00 : w.heap.size < w18.heap.size := bxP0.lt
  have qP01 : w18.cell? ⟨w.heap.size, 1, none⟩ = some (.slice A0b n0b c0b) := bxP0.cell 1
  have pP01 : ∀ o, (w18.alloc o).cell? ⟨w.heap.size, 1, none⟩ = some (.slice A0b n0b c0b) := fun o => keepA qP01
  have rP01 : w.heap.size < w18.heap.size := bxP0.lt
  have qP02 : w18.cell? ⟨w.heap.size, 2, none⟩ = some (.slice A0c n0c c0c) := bxP0.cell 2
  have pP02 : ∀ o, (w18.alloc o).cell? ⟨w.heap.size, 2, none⟩ = some (.slice A0c n0c c0c) := fun o => keepA qP02
  have rP02 : w.heap.size < w18.heap.size := bxP0.lt
  have qr0 : w18.cell? ⟨w4.heap.size, 0, none⟩ = some (.slice Ara (raiseG z0 by_).1.length cra) := bxr.cell 0
  have pr0 : ∀ o, (w18.alloc o).cell? ⟨w4.heap.size, 0, none⟩ = some (.slice Ara (raiseG z0 by_).1.length cra) := fun o => keepA qr0
  have rr0 : w4.heap.size < w18.heap.size := bxr.lt
  have qr1 : w18.cell? ⟨w4.heap.size, 1, none⟩ = some (.slice Arb (raiseG z0 by_).2.1.length crb) := bxr.cell 1
  have pr1 : ∀ o, (w18.alloc o).cell? ⟨w4.heap.size, 1, none⟩ = some (.slice Arb (raiseG z0 by_).2.1.length crb) := fun o => keepA qr1
  have rr1 : w4.heap.size < w18.heap.size := bxr.lt
  have qr2 : w18.cell? ⟨w4.heap.size, 2, none⟩ = some (.slice Arc (raiseG z0 by_).2.2.length crc) := bxr.cell 2
  have pr2 : ∀ o, (w18.alloc o).cell? ⟨w4.heap.size, 2, none⟩ = some (.slice Arc (raiseG z0 by_).2.2.length crc) := fun o => keepA qr2
  have rr2 : w4.heap.size < w18.heap.size := bxr.lt
  have qg0 : w18.cell? ⟨w8.heap.size, 0, none⟩ = some (.slice Aga (raiseG z0 by_).1.length cga) := bxg.cell 0
  have pg0 : ∀ o, (w18.alloc o).cell? ⟨w8.heap.size, 0, none⟩ = some (.slice Aga (raiseG z0 by_).1.length cga) := fun o => keepA qg0
  have rg0 : w8.heap.size < w18.heap.size := bxg.lt
  have qg1 : w18.cell? ⟨w8.heap.size, 1, none⟩ = some (.slice Agb (raiseG z0 by_).2.1.length cgb) := bxg.cell 1
  have pg1 : ∀ o, (w18.alloc o).cell? ⟨w8.heap.size, 1, none⟩ = some (.slice Agb (raiseG z0 by_).2.1.length cgb) := fun o => keepA qg1
  have rg1 : w8.heap.size < w18.heap.size := bxg.lt
  have qg2 : w18.cell? ⟨w8.heap.size, 2, none⟩ = some (.slice Agc (raiseG z0 by_).2.2.length cgc) := bxg.cell 2
  have pg2 : ∀ o, (w18.alloc o).cell? ⟨w8.heap.size, 2, none⟩ = some (.slice Agc (raiseG z0 by_).2.2.length cgc) := fun o => keepA qg2
  have rg2 : w8.heap.size < w18.heap.size := bxg.lt
  go_wp2_with fail
  clear qP00 pP00 rP00 qP01 pP01 rP01 qP02 pP02 rP02 qr0 pr0 rr0 qr1 pr1 rr1 qr2 pr2 rr2 qg0 pg0 rg0 qg1 pg1 rg1 qg2 pg2 rg2
  have hww19 : Below w.heap.size w (w18.alloc (.cells #[.slice Aha (raiseG z0 by_).1.length cha, .slice Ahb (raiseG z0 by_).2.1.length chb, .slice Ahc (raiseG z0 by_).2.2.length chc] 44)) := below_alloc (Nat.le_refl _) hww18
  have zw19 : w18.heap.size + 1 = (w18.alloc (.cells #[.slice Aha (raiseG z0 by_).1.length cha, .slice Ahb (raiseG z0 by_).2.1.length chb, .slice Ahc (raiseG z0 by_).2.2.length chc] 44)).heap.size := by simp
  replace fr := fr.step (below_alloc (o := (.cells #[.slice Aha (raiseG z0 by_).1.length cha, .slice Ahb (raiseG z0 by_).2.1.length chb, .slice Ahc (raiseG z0 by_).2.2.length chc] 44)) (Nat.le_refl _) (Below.refl _ _))
  replace fg := fg.step (below_alloc (o := (.cells #[.slice Aha (raiseG z0 by_).1.length cha, .slice Ahb (raiseG z0 by_).2.1.length chb, .slice Ahc (raiseG z0 by_).2.2.length chc] 44)) (Nat.le_refl _) (Below.refl _ _))
  replace fh := fh.step (below_alloc (o := (.cells #[.slice Aha (raiseG z0 by_).1.length cha, .slice Ahb (raiseG z0 by_).2.1.length chb, .slice Ahc (raiseG z0 by_).2.2.length chc] 44)) (Nat.le_refl _) (Below.refl _ _))
  replace bxP0 := bxP0.alloc (.cells #[.slice Aha (raiseG z0 by_).1.length cha, .slice Ahb (raiseG z0 by_).2.1.length chb, .slice Ahc (raiseG z0 by_).2.2.length chc] 44)
  replace bxr := bxr.alloc (.cells #[.slice Aha (raiseG z0 by_).1.length cha, .slice Ahb (raiseG z0 by_).2.1.length chb, .slice Ahc (raiseG z0 by_).2.2.length chc] 44)
  replace bxg := bxg.alloc (.cells #[.slice Aha (raiseG z0 by_).1.length cha, .slice Ahb (raiseG z0 by_).2.1.length chb, .slice Ahc (raiseG z0 by_).2.2.length chc] 44)
  have bxh := Box.new w18 44 #[.slice Aha (raiseG z0 by_).1.length cha, .slice Ahb (raiseG z0 by_).2.1.length chb, .slice Ahc (raiseG z0 by_).2.2.length chc]
  generalize (w18.alloc (.cells #[.slice Aha (raiseG z0 by_).1.length cha, .slice Ahb (raiseG z0 by_).2.1.length chb, .slice Ahc (raiseG z0 by_).2.2.length chc] 44)) = w19 at hww19 zw19 fr fg fh bxP0 bxr bxg bxh ⊢
  refine (eqParity _ _ _ _ _ _ _ _ _ _ (Nat.le_refl _) (oh.hold fh).reads (or.hold fr).reads).mono ?_; rintro e w20 ⟨rfl, hbw20⟩
  have zw20 := hbw20.size
  have hww20 := below_then hbw20 hww19.size hww19
  replace fr := fr.step hbw20
  replace fg := fg.step hbw20
  replace fh := fh.step hbw20
  replace bxP0 := bxP0.below hbw20 bxP0.lt
  replace bxr := bxr.below hbw20 bxr.lt
  replace bxg := bxg.below hbw20 bxg.lt
  replace bxh := bxh.below hbw20 bxh.lt
  rw [eqPar_self]
  have qP00 : w20.cell? ⟨w.heap.size, 0, none⟩ = some (.slice A0a n0a c0a) := bxP0.cell 0
  have pP00 : ∀ o, (w20.alloc o).cell? ⟨w.heap.size, 0, none⟩ = some (.slice A0a n0a c0a) := fun o => keepA qP00
  have rP00 : w.heap.size < w20.heap.size := bxP0.lt
  have qP01 : w20.cell? ⟨w.heap.size, 1, none⟩ = some (.slice A0b n0b c0b) := bxP0.cell 1
  have pP01 : ∀ o, (w20.alloc o).cell? ⟨w.heap.size, 1, none⟩ = some (.slice A0b n0b c0b) := fun o => keepA qP01
  have rP01 : w.heap.size < w20.heap.size := bxP0.lt
  have qP02 : w20.cell? ⟨w.heap.size, 2, none⟩ = some (.slice A0c n0c c0c) := bxP0.cell 2
  have pP02 : ∀ o, (w20.alloc o).cell? ⟨w.heap.size, 2, none⟩ = some (.slice A0c n0c c0c) := fun o => keepA qP02
  have rP02 : w.heap.size < w20.heap.size := bxP0.lt
  have qr0 : w20.cell? ⟨w4.heap.size, 0, none⟩ = some (.slice Ara (raiseG z0 by_).1.length cra) := bxr.cell 0
  have pr0 : ∀ o, (w20.alloc o).cell? ⟨w4.heap.size, 0, none⟩ = some (.slice Ara (raiseG z0 by_).1.length cra) := fun o => keepA qr0
  have rr0 : w4.heap.size < w20.heap.size := bxr.lt
  have qr1 : w20.cell? ⟨w4.heap.size, 1, none⟩ = some (.slice Arb (raiseG z0 by_).2.1.length crb) := bxr.cell 1
  have pr1 : ∀ o, (w20.alloc o).cell? ⟨w4.heap.size, 1, none⟩ = some (.slice Arb (raiseG z0 by_).2.1.length crb) := fun o => keepA qr1
  have rr1 : w4.heap.size < w20.heap.size := bxr.lt
  have qr2 : w20.cell? ⟨w4.heap.size, 2, none⟩ = some (.slice Arc (raiseG z0 by_).2.2.length crc) := bxr.cell 2
  have pr2 : ∀ o, (w20.alloc o).cell? ⟨w4.heap.size, 2, none⟩ = some (.slice Arc (raiseG z0 by_).2.2.length crc) := fun o => keepA qr2
  have rr2 : w4.heap.size < w20.heap.size := bxr.lt
  have qg0 : w20.cell? ⟨w8.heap.size, 0, none⟩ = some (.slice Aga (raiseG z0 by_).1.length cga) := bxg.cell 0
  have pg0 : ∀ o, (w20.alloc o).cell? ⟨w8.heap.size, 0, none⟩ = some (.slice Aga (raiseG z0 by_).1.length cga) := fun o => keepA qg0
  have rg0 : w8.heap.size < w20.heap.size := bxg.lt
  have qg1 : w20.cell? ⟨w8.heap.size, 1, none⟩ = some (.slice Agb (raiseG z0 by_).2.1.length cgb) := bxg.cell 1
  have pg1 : ∀ o, (w20.alloc o).cell? ⟨w8.heap.size, 1, none⟩ = some (.slice Agb (raiseG z0 by_).2.1.length cgb) := fun o => keepA qg1
  have rg1 : w8.heap.size < w20.heap.size := bxg.lt
  have qg2 : w20.cell? ⟨w8.heap.size, 2, none⟩ = some (.slice Agc (raiseG z0 by_).2.2.length cgc) := bxg.cell 2
  have pg2 : ∀ o, (w20.alloc o).cell? ⟨w8.heap.size, 2, none⟩ = some (.slice Agc (raiseG z0 by_).2.2.length cgc) := fun o => keepA qg2
  have rg2 : w8.heap.size < w20.heap.size := bxg.lt
  have qh0 : w20.cell? ⟨w18.heap.size, 0, none⟩ = some (.slice Aha (raiseG z0 by_).1.length cha) := bxh.cell 0
  have ph0 : ∀ o, (w20.alloc o).cell? ⟨w18.heap.size, 0, none⟩ = some (.slice Aha (raiseG z0 by_).1.length cha) := fun o => keepA qh0
  have rh0 : w18.heap.size < w20.heap.size := bxh.lt
  have qh1 : w20.cell? ⟨w18.heap.size, 1, none⟩ = some (.slice Ahb (raiseG z0 by_).2.1.length chb) := bxh.cell 1
  have ph1 : ∀ o, (w20.alloc o).cell? ⟨w18.heap.size, 1, none⟩ = some (.slice Ahb (raiseG z0 by_).2.1.length chb) := fun o => keepA qh1
  have rh1 : w18.heap.size < w20.heap.size := bxh.lt
  have qh2 : w20.cell? ⟨w18.heap.size, 2, none⟩ = some (.slice Ahc (raiseG z0 by_).2.2.length chc) := bxh.cell 2
  have ph2 : ∀ o, (w20.alloc o).cell? ⟨w18.heap.size, 2, none⟩ = some (.slice Ahc (raiseG z0 by_).2.2.length chc) := fun o => keepA qh2
  have rh2 : w18.heap.size < w20.heap.size := bxh.lt
  go_wp2_with fail
  clear qP00 pP00 rP00 qP01 pP01 rP01 qP02 pP02 rP02 qr0 pr0 rr0 qr1 pr1 rr1 qr2 pr2 rr2 qg0 pg0 rg0 qg1 pg1 rg1 qg2 pg2 rg2 qh0 ph0 rh0 qh1 ph1 rh1 qh2 ph2 rh2
  refine (heldParity _ _ _ (raiseG z0 by_) 1 _ _ (Nat.le_refl _) (og.hold fg).reads (by omega) (by omega)).mono ?_; rintro e w21 ⟨rfl, hbw21⟩
  have zw21 := hbw21.size
  have hww21 := below_then hbw21 hww20.size hww20
  replace fr := fr.step hbw21
  replace fg := fg.step hbw21
  replace fh := fh.step hbw21
  replace bxP0 := bxP0.below hbw21 bxP0.lt
  replace bxr := bxr.below hbw21 bxr.lt
  replace bxg := bxg.below hbw21 bxg.lt
  replace bxh := bxh.below hbw21 bxh.lt
  have qP00 : w21.cell? ⟨w.heap.size, 0, none⟩ = some (.slice A0a n0a c0a) := bxP0.cell 0
  have qP01 : w21.cell? ⟨w.heap.size, 1, none⟩ = some (.slice A0b n0b c0b) := bxP0.cell 1
  have qP02 : w21.cell? ⟨w.heap.size, 2, none⟩ = some (.slice A0c n0c c0c) := bxP0.cell 2
  have qr0 : w21.cell? ⟨w4.heap.size, 0, none⟩ = some (.slice Ara (raiseG z0 by_).1.length cra) := bxr.cell 0
  have qr1 : w21.cell? ⟨w4.heap.size, 1, none⟩ = some (.slice Arb (raiseG z0 by_).2.1.length crb) := bxr.cell 1
  have qr2 : w21.cell? ⟨w4.heap.size, 2, none⟩ = some (.slice Arc (raiseG z0 by_).2.2.length crc) := bxr.cell 2
  have qg0 : w21.cell? ⟨w8.heap.size, 0, none⟩ = some (.slice Aga (raiseG z0 by_).1.length cga) := bxg.cell 0
  have qg1 : w21.cell? ⟨w8.heap.size, 1, none⟩ = some (.slice Agb (raiseG z0 by_).2.1.length cgb) := bxg.cell 1
  have qg2 : w21.cell? ⟨w8.heap.size, 2, none⟩ = some (.slice Agc (raiseG z0 by_).2.2.length cgc) := bxg.cell 2
  have qh0 : w21.cell? ⟨w18.heap.size, 0, none⟩ = some (.slice Aha (raiseG z0 by_).1.length cha) := bxh.cell 0
  have qh1 : w21.cell? ⟨w18.heap.size, 1, none⟩ = some (.slice Ahb (raiseG z0 by_).2.1.length chb) := bxh.cell 1
  have qh2 : w21.cell? ⟨w18.heap.size, 2, none⟩ = some (.slice Ahc (raiseG z0 by_).2.2.length chc) := bxh.cell 2
  go_wp2
  go_ret
  exact ⟨rfl, hww21⟩

theorem own : ownKnob Try.prog.godebug = none := by kernel_rfl
theorem laidOut : laidOutB Try.prog = true := by kernel_rfl
set_option maxRecDepth 100000 in
theorem lifted (os : Os) (started : os.Started) (H : Type) (enc : TypeId × Value → H) :
    ReturnsInHanded {} Try.checked os 5 .any (Rows.fnExactRaisedGameSpec.pre6 enc Try.prog Try.f5 Rows.fnExactRaisedGameRow.domain false) (Rows.fnExactRaisedGameSpec.post enc Try.prog Try.f5 false true false false) := by
  refine returnsInHanded_of_change (C := Try.checked) own started (by kernel_rfl) Try.func5
    (ChangeSpec.witness6 (enc := enc) (C := Try.checked) false ⟨#[], #[.agg #[.slice none 0 0, .slice none 0 0, .slice none 0 0], .int .i64 0], []⟩ 8 (by kernel_rfl) (by kernel_rfl) (by kernel_rfl) (by kernel_rfl)) ?_
  intro W base args ds gs before hval0 hW hcnd _
  have hval : ∀ (j : Nat) t v, Try.f5.params[j]? = some t → args[j]? = some v → Value.okWide Try.prog W .any base t v := hval0
  have hW' := hW
  obtain ⟨p, q, hA0, hV, rfl, hfz, hnd⟩ := hW
  have hA : DataW.TrodAll enc Try.prog W 0 (fun _ => true) true Try.f5.params.toList args.toList ds p := hA0
  rw [Try.params5] at hA hval
  obtain ⟨v0, vs0, d0, ds0, p0, q0, hargs, rfl, rfl, h0, r0⟩ := trodAll_cons hA
  obtain ⟨v1, vs1, d1, ds1, p1, q1, rfl, rfl, rfl, h1, r1⟩ := trodAll_cons r0
  obtain ⟨rfl, rfl, rfl⟩ := trodAll_nil r1
  obtain rfl : args = #[v0, v1] := by cases args; simp_all
  obtain ⟨rfl, rfl⟩ := trodVars_none hV
  have k0 := h0
  have lt0 : ∀ x ∈ p0, x.block < W.heap.size := by obtain ⟨m, hm⟩ := k0; exact DataW.trod_lt m _ _ _ hm
  obtain ⟨c0, e0, g0, y0, z0, u0, m0, l0, rfl, hy0, hz0, hu0⟩ := open_game Try.underlying40 Try.underlying38 ⟨by kernel_rfl, rfl, by kernel_rfl, rfl, by kernel_rfl, rfl, by kernel_rfl, rfl, by kernel_rfl⟩ (hval 0 40 v0 rfl rfl) h0
  obtain ⟨A0a, n0a, c0a, x0a, rfl, r0a⟩ := ri_of_trod Try.underlying29 Try.underlying2 (by kernel_rfl) hy0
  obtain ⟨A0b, n0b, c0b, x0b, rfl, r0b⟩ := rii_of_trod Try.underlying36 Try.underlying29 Try.underlying2 (by kernel_rfl) (by kernel_rfl) hz0
  obtain ⟨A0c, n0c, c0c, x0c, rfl, r0c⟩ := ri_of_trod Try.underlying29 Try.underlying2 (by kernel_rfl) hu0
  obtain ⟨a1, rfl, rfl, rfl, w1⟩ := open_int Try.underlying2 (hval 1 2 v1 rfl rfl) h1
  clear hA0 hval0
  refine (walk _ _ _ _ _ _ _ _ _ (x0a, x0b, x0c) a1 W (RPv.of r0a r0b r0c)).mono fun e W' ⟨he, bel⟩ => ?_
  subst he
  exact ⟨_, rfl, _, _, _, [], _, [], hW', trodAll_mk1 (shut_bool Try.underlying4 _), (trodAll_cons_mk (Below.trod laidOut (by kernel_rfl) (of_decide_eq_true (by kernel_rfl)) k0 bel lt0) (trodAll_cons_mk (shut_int Try.underlying2 w1) trodAll_mk0)), rfl, bel.frame _, fun h => by cases h⟩
theorem over : Rows.fnExactRaisedGameRow.holds Try.pinned (OpenSpec.ofChange Rows.fnExactRaisedGameSpec) :=
  OpenClaim.holds_of_wide 5 Try.f5 rfl rfl rfl rfl rfl rfl rfl ⟨rfl, rfl, rfl, rfl, rfl⟩ rfl rfl rfl rfl rfl (by kernel_rfl) Try.func5 (by kernel_rfl)
    (of_decide_eq_true (by kernel_rfl)) (by unfold Func.isWrapper; first | (rw [if_pos (by decide +kernel)]; kernel_rfl) | (rw [if_neg (by decide +kernel)]; exact ⟨rfl, rfl⟩))
    (fun os started H enc _ => lifted os started H enc)
/-- the statement -/
theorem proved : Rows.FnExactRaisedGameSaid := over
end Go.Proofs.Ytfjhkjikfjpnpaa.fnExactRaisedGame

