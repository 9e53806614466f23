/- FnExactGameText: for every input the law returns true, and each argument reads as it read before. No condition. -/
import Derived.Test.YtkhkdnmpbfmmeaaDoorGmT
import Derived.Test.YtkhkdnmpbfmmeaaDoorParL
import Derived.Test.YtkhkdnmpbfmmeaaDoorOpenG
import Derived.Test.YtkhkdnmpbfmmeaaDoorOpen
import Derived.Deep.RegionHeld3
import Derived.Test.YtkhkdnmpbfmmeaaDoorCard
import Derived.Test.YtkhkdnmpbfmmeaaDoorCards
import Derived.Test.YtkhkdnmpbfmmeaaDoorTie
namespace Go.Proofs.YtkhkdnmpbfmmeaaDoor.fnExactGameText
open Go.ChangeShapes Go.WideShapes Go.ChangeAt Go.RowKit

set_option maxRecDepth 100000 in
set_option maxHeartbeats 1600000 in
theorem walk (A0a A0b A0c : Option Addr) (n0a c0a n0b c0b n0c c0c : Nat) (z0 : ParD) (w : World) (ha0 : RPv w (.slice A0a n0a c0a) (.slice A0b n0b c0b) (.slice A0c n0c c0c) z0) (hT : Tab w) (hP : PN w) :
    Calls Tryd.prog 9 #[.agg #[.slice A0a n0a c0a, .slice A0b n0b c0b, .slice A0c n0c c0c]] w fun e w' => e = .returned (.bool true) ∧ Below w.heap.size w w' := by
  by_cases hy0 : ¬ (((szPar z0) : Nat) : Int) ≤ 1048576
  · have E0 := Lib.hid (szF_no hy0)
    have hww := Below.refl w.heap.size w
    go_enter Tryd.func9, Tryd.ntmps9
    go_wp2_with fail
    have hww1 : Below w.heap.size w (w.alloc (.cells #[.slice A0a n0a c0a, .slice A0b n0b c0b, .slice A0c n0c c0c] 49)) := below_alloc (Nat.le_refl _) hww
    have zw1 : w.heap.size + 1 = (w.alloc (.cells #[.slice A0a n0a c0a, .slice A0b n0b c0b, .slice A0c n0c c0c] 49)).heap.size := by simp
    have bxP0 := Box.new w 49 #[.slice A0a n0a c0a, .slice A0b n0b c0b, .slice A0c n0c c0c]
    generalize (w.alloc (.cells #[.slice A0a n0a c0a, .slice A0b n0b c0b, .slice A0c n0c c0c] 49)) = w1 at hww1 zw1 bxP0 ⊢
    refine (szParity _ _ _ _ _ _ _ (Nat.le_refl _) (ha0.keep (keeps_below hww1)) (by omega) (by omega)).mono ?_; rintro e w2 ⟨rfl, hbw2⟩
    have zw2 := hbw2.size
    have hww2 := below_then hbw2 hww1.size hww1
    replace bxP0 := bxP0.below hbw2 bxP0.lt
    rw [E0.out]
    go_wp2
    go_ret
    exact ⟨rfl, hww2⟩
  have hz0 : (((szPar z0) : Nat) : Int) ≤ 1048576 := by omega
  have hm0 : (szPar z0) ≤ 1048576 := by omega
  have E0 := Lib.hid (szF_yes hz0)
  clear hy0
  have hww := Below.refl w.heap.size w
  go_enter Tryd.func9, Tryd.ntmps9
  go_wp2_with fail
  have hww1 : Below w.heap.size w (w.alloc (.cells #[.slice A0a n0a c0a, .slice A0b n0b c0b, .slice A0c n0c c0c] 49)) := below_alloc (Nat.le_refl _) hww
  have zw1 : w.heap.size + 1 = (w.alloc (.cells #[.slice A0a n0a c0a, .slice A0b n0b c0b, .slice A0c n0c c0c] 49)).heap.size := by simp
  have bxP0 := Box.new w 49 #[.slice A0a n0a c0a, .slice A0b n0b c0b, .slice A0c n0c c0c]
  generalize (w.alloc (.cells #[.slice A0a n0a c0a, .slice A0b n0b c0b, .slice A0c n0c c0c] 49)) = w1 at hww1 zw1 bxP0 ⊢
  refine (szParity _ _ _ _ _ _ _ (Nat.le_refl _) (ha0.keep (keeps_below hww1)) (by omega) (by omega)).mono ?_; rintro e w2 ⟨rfl, hbw2⟩
  have zw2 := hbw2.size
  have hww2 := below_then hbw2 hww1.size hww1
  replace bxP0 := bxP0.below hbw2 bxP0.lt
  rw [E0.out]
  have qP00 : w2.cell? ⟨w.heap.size, 0, none⟩ = some (.slice A0a n0a c0a) := bxP0.cell 0
  have pP00 : ∀ o, (w2.alloc o).cell? ⟨w.heap.size, 0, none⟩ = some (.slice A0a n0a c0a) := fun o => keepA qP00
  have rP00 : w.heap.size < w2.heap.size := bxP0.lt
  have qP01 : w2.cell? ⟨w.heap.size, 1, none⟩ = some (.slice A0b n0b c0b) := bxP0.cell 1
  have pP01 : ∀ o, (w2.alloc o).cell? ⟨w.heap.size, 1, none⟩ = some (.slice A0b n0b c0b) := fun o => keepA qP01
  have rP01 : w.heap.size < w2.heap.size := bxP0.lt
  have qP02 : w2.cell? ⟨w.heap.size, 2, none⟩ = some (.slice A0c n0c c0c) := bxP0.cell 2
  have pP02 : ∀ o, (w2.alloc o).cell? ⟨w.heap.size, 2, none⟩ = some (.slice A0c n0c c0c) := fun o => keepA qP02
  have rP02 : w.heap.size < w2.heap.size := bxP0.lt
  go_wp2_with fail
  clear qP00 pP00 rP00 qP01 pP01 rP01 qP02 pP02 rP02
  refine (toParity _ _ _ _ _ _ (Nat.le_refl _) (ha0.keep (keeps_below hww2)) hm0).mono ?_; rintro e w3 ⟨vy0a, vy0b, vy0c, rfl, oy0, hbw3⟩
  obtain ⟨Ay0a, cy0a, Ay0b, cy0b, Ay0c, cy0c, rfl, rfl, rfl⟩ := oy0.form
  have zw3 := hbw3.size
  have hww3 := below_then hbw3 hww2.size hww2
  replace bxP0 := bxP0.below hbw3 bxP0.lt
  have fy0 := Far.refl w2.heap.size w3
  have qP00 : w3.cell? ⟨w.heap.size, 0, none⟩ = some (.slice A0a n0a c0a) := bxP0.cell 0
  have pP00 : ∀ o, (w3.alloc o).cell? ⟨w.heap.size, 0, none⟩ = some (.slice A0a n0a c0a) := fun o => keepA qP00
  have rP00 : w.heap.size < w3.heap.size := bxP0.lt
  have qP01 : w3.cell? ⟨w.heap.size, 1, none⟩ = some (.slice A0b n0b c0b) := bxP0.cell 1
  have pP01 : ∀ o, (w3.alloc o).cell? ⟨w.heap.size, 1, none⟩ = some (.slice A0b n0b c0b) := fun o => keepA qP01
  have rP01 : w.heap.size < w3.heap.size := bxP0.lt
  have qP02 : w3.cell? ⟨w.heap.size, 2, none⟩ = some (.slice A0c n0c c0c) := bxP0.cell 2
  have pP02 : ∀ o, (w3.alloc o).cell? ⟨w.heap.size, 2, none⟩ = some (.slice A0c n0c c0c) := fun o => keepA qP02
  have rP02 : w.heap.size < w3.heap.size := bxP0.lt
  go_wp2_with fail
  clear qP00 pP00 rP00 qP01 pP01 rP01 qP02 pP02 rP02
  refine (specGameText _ _ _ _ _ _ (Nat.le_refl _) (oy0.hold fy0).reads).mono ?_; rintro e w4 ⟨rfl, hbw4⟩
  have zw4 := hbw4.size
  have hww4 := below_then hbw4 hww3.size hww3
  replace fy0 := fy0.step hbw4
  replace bxP0 := bxP0.below hbw4 bxP0.lt
  clear oy0 fy0
  have qP00 : w4.cell? ⟨w.heap.size, 0, none⟩ = some (.slice A0a n0a c0a) := bxP0.cell 0
  have pP00 : ∀ o, (w4.alloc o).cell? ⟨w.heap.size, 0, none⟩ = some (.slice A0a n0a c0a) := fun o => keepA qP00
  have rP00 : w.heap.size < w4.heap.size := bxP0.lt
  have qP01 : w4.cell? ⟨w.heap.size, 1, none⟩ = some (.slice A0b n0b c0b) := bxP0.cell 1
  have pP01 : ∀ o, (w4.alloc o).cell? ⟨w.heap.size, 1, none⟩ = some (.slice A0b n0b c0b) := fun o => keepA qP01
  have rP01 : w.heap.size < w4.heap.size := bxP0.lt
  have qP02 : w4.cell? ⟨w.heap.size, 2, none⟩ = some (.slice A0c n0c c0c) := bxP0.cell 2
  have pP02 : ∀ o, (w4.alloc o).cell? ⟨w.heap.size, 2, none⟩ = some (.slice A0c n0c c0c) := fun o => keepA qP02
  have rP02 : w.heap.size < w4.heap.size := bxP0.lt
  go_wp2_with fail
  clear qP00 pP00 rP00 qP01 pP01 rP01 qP02 pP02 rP02
  refine (toParity _ _ _ _ _ _ (Nat.le_refl _) (ha0.keep (keeps_below hww4)) hm0).mono ?_; rintro e w5 ⟨vx0a, vx0b, vx0c, rfl, ox0, hbw5⟩
  obtain ⟨Ax0a, cx0a, Ax0b, cx0b, Ax0c, cx0c, rfl, rfl, rfl⟩ := ox0.form
  have zw5 := hbw5.size
  have hww5 := below_then hbw5 hww4.size hww4
  replace bxP0 := bxP0.below hbw5 bxP0.lt
  have fx0 := Far.refl w4.heap.size w5
  have qP00 : w5.cell? ⟨w.heap.size, 0, none⟩ = some (.slice A0a n0a c0a) := bxP0.cell 0
  have pP00 : ∀ o, (w5.alloc o).cell? ⟨w.heap.size, 0, none⟩ = some (.slice A0a n0a c0a) := fun o => keepA qP00
  have rP00 : w.heap.size < w5.heap.size := bxP0.lt
  have qP01 : w5.cell? ⟨w.heap.size, 1, none⟩ = some (.slice A0b n0b c0b) := bxP0.cell 1
  have pP01 : ∀ o, (w5.alloc o).cell? ⟨w.heap.size, 1, none⟩ = some (.slice A0b n0b c0b) := fun o => keepA qP01
  have rP01 : w.heap.size < w5.heap.size := bxP0.lt
  have qP02 : w5.cell? ⟨w.heap.size, 2, none⟩ = some (.slice A0c n0c c0c) := bxP0.cell 2
  have pP02 : ∀ o, (w5.alloc o).cell? ⟨w.heap.size, 2, none⟩ = some (.slice A0c n0c c0c) := fun o => keepA qP02
  have rP02 : w.heap.size < w5.heap.size := bxP0.lt
  go_wp2_with fail
  clear qP00 pP00 rP00 qP01 pP01 rP01 qP02 pP02 rP02
  have hww6 : Below w.heap.size w (w5.alloc (.cells #[.slice Ax0a (z0).1.length cx0a, .slice Ax0b (z0).2.1.length cx0b, .slice Ax0c (z0).2.2.length cx0c] 54)) := below_alloc (Nat.le_refl _) hww5
  have zw6 : w5.heap.size + 1 = (w5.alloc (.cells #[.slice Ax0a (z0).1.length cx0a, .slice Ax0b (z0).2.1.length cx0b, .slice Ax0c (z0).2.2.length cx0c] 54)).heap.size := by simp
  replace fx0 := fx0.step (below_alloc (o := (.cells #[.slice Ax0a (z0).1.length cx0a, .slice Ax0b (z0).2.1.length cx0b, .slice Ax0c (z0).2.2.length cx0c] 54)) (Nat.le_refl _) (Below.refl _ _))
  replace bxP0 := bxP0.alloc (.cells #[.slice Ax0a (z0).1.length cx0a, .slice Ax0b (z0).2.1.length cx0b, .slice Ax0c (z0).2.2.length cx0c] 54)
  have bxx0 := Box.new w5 54 #[.slice Ax0a (z0).1.length cx0a, .slice Ax0b (z0).2.1.length cx0b, .slice Ax0c (z0).2.2.length cx0c]
  generalize (w5.alloc (.cells #[.slice Ax0a (z0).1.length cx0a, .slice Ax0b (z0).2.1.length cx0b, .slice Ax0c (z0).2.2.length cx0c] 54)) = w6 at hww6 zw6 fx0 bxP0 bxx0 ⊢
  refine (implGameText _ _ _ _ _ _ (Nat.le_refl _) (hT.below hww6) (hP.keep (keeps_below hww6)) (ox0.hold fx0).reads).mono ?_; rintro e w7 ⟨rfl, hbw7⟩
  have zw7 := hbw7.size
  have hww7 := below_then hbw7 hww6.size hww6
  replace fx0 := fx0.step hbw7
  replace bxP0 := bxP0.below hbw7 bxP0.lt
  replace bxx0 := bxx0.below hbw7 bxx0.lt
  have qP00 : w7.cell? ⟨w.heap.size, 0, none⟩ = some (.slice A0a n0a c0a) := bxP0.cell 0
  have pP00 : ∀ o, (w7.alloc o).cell? ⟨w.heap.size, 0, none⟩ = some (.slice A0a n0a c0a) := fun o => keepA qP00
  have rP00 : w.heap.size < w7.heap.size := bxP0.lt
  have qP01 : w7.cell? ⟨w.heap.size, 1, none⟩ = some (.slice A0b n0b c0b) := bxP0.cell 1
  have pP01 : ∀ o, (w7.alloc o).cell? ⟨w.heap.size, 1, none⟩ = some (.slice A0b n0b c0b) := fun o => keepA qP01
  have rP01 : w.heap.size < w7.heap.size := bxP0.lt
  have qP02 : w7.cell? ⟨w.heap.size, 2, none⟩ = some (.slice A0c n0c c0c) := bxP0.cell 2
  have pP02 : ∀ o, (w7.alloc o).cell? ⟨w.heap.size, 2, none⟩ = some (.slice A0c n0c c0c) := fun o => keepA qP02
  have rP02 : w.heap.size < w7.heap.size := bxP0.lt
  have qx00 : w7.cell? ⟨w5.heap.size, 0, none⟩ = some (.slice Ax0a (z0).1.length cx0a) := bxx0.cell 0
  have px00 : ∀ o, (w7.alloc o).cell? ⟨w5.heap.size, 0, none⟩ = some (.slice Ax0a (z0).1.length cx0a) := fun o => keepA qx00
  have rx00 : w5.heap.size < w7.heap.size := bxx0.lt
  have qx01 : w7.cell? ⟨w5.heap.size, 1, none⟩ = some (.slice Ax0b (z0).2.1.length cx0b) := bxx0.cell 1
  have px01 : ∀ o, (w7.alloc o).cell? ⟨w5.heap.size, 1, none⟩ = some (.slice Ax0b (z0).2.1.length cx0b) := fun o => keepA qx01
  have rx01 : w5.heap.size < w7.heap.size := bxx0.lt
  have qx02 : w7.cell? ⟨w5.heap.size, 2, none⟩ = some (.slice Ax0c (z0).2.2.length cx0c) := bxx0.cell 2
  have px02 : ∀ o, (w7.alloc o).cell? ⟨w5.heap.size, 2, none⟩ = some (.slice Ax0c (z0).2.2.length cx0c) := fun o => keepA qx02
  have rx02 : w5.heap.size < w7.heap.size := bxx0.lt
  go_wp2_with fail
  clear qP00 pP00 rP00 qP01 pP01 rP01 qP02 pP02 rP02 qx00 px00 rx00 qx01 px01 rx01 qx02 px02 rx02
  have qP00 : w7.cell? ⟨w.heap.size, 0, none⟩ = some (.slice A0a n0a c0a) := bxP0.cell 0
  have qP01 : w7.cell? ⟨w.heap.size, 1, none⟩ = some (.slice A0b n0b c0b) := bxP0.cell 1
  have qP02 : w7.cell? ⟨w.heap.size, 2, none⟩ = some (.slice A0c n0c c0c) := bxP0.cell 2
  have rP0 : w.heap.size < w7.heap.size := bxP0.lt
  have qx00 : w7.cell? ⟨w5.heap.size, 0, none⟩ = some (.slice Ax0a (z0).1.length cx0a) := bxx0.cell 0
  have qx01 : w7.cell? ⟨w5.heap.size, 1, none⟩ = some (.slice Ax0b (z0).2.1.length cx0b) := bxx0.cell 1
  have qx02 : w7.cell? ⟨w5.heap.size, 2, none⟩ = some (.slice Ax0c (z0).2.2.length cx0c) := bxx0.cell 2
  have rx0 : w5.heap.size < w7.heap.size := bxx0.lt
  go_region_held3 (fun w' => w'.cell? ⟨w.heap.size, 0, none⟩ = some (.slice A0a n0a c0a) ∧ w'.cell? ⟨w.heap.size, 1, none⟩ = some (.slice A0b n0b c0b) ∧ w'.cell? ⟨w.heap.size, 2, none⟩ = some (.slice A0c n0c c0c) ∧ w'.cell? ⟨w5.heap.size, 0, none⟩ = some (.slice Ax0a (z0).1.length cx0a) ∧ w'.cell? ⟨w5.heap.size, 1, none⟩ = some (.slice Ax0b (z0).2.1.length cx0b) ∧ w'.cell? ⟨w5.heap.size, 2, none⟩ = some (.slice Ax0c (z0).2.2.length cx0c))
    (refine ⟨?_, ?_, ?_, ?_, ?_, ?_⟩ <;> repeat (first | with_reducible assumption | with_reducible refine keepD ?_ | with_reducible refine keepA ?_))
    (first
      | (go_at_call 33
         refine (toParity _ _ _ _ _ _ (Nat.le_refl _) (ha0.keep (keeps_below (Below.drew hww7))) hm0).mono ?_; rintro e w8 ⟨vt0a, vt0b, vt0c, rfl, ot0, hbw8⟩
         replace hbw8 := below_undrew hbw8
         obtain ⟨At0a, ct0a, At0b, ct0b, At0c, ct0c, rfl, rfl, rfl⟩ := ot0.form
         have zw8 := hbw8.size
         have hww8 := below_then hbw8 hww7.size hww7
         replace fx0 := fx0.step hbw8
         replace bxP0 := bxP0.below hbw8 bxP0.lt
         replace bxx0 := bxx0.below hbw8 bxx0.lt
         have ft0 := Far.refl w7.heap.size w8
         have qP00 : w8.cell? ⟨w.heap.size, 0, none⟩ = some (.slice A0a n0a c0a) := bxP0.cell 0
         have qP01 : w8.cell? ⟨w.heap.size, 1, none⟩ = some (.slice A0b n0b c0b) := bxP0.cell 1
         have qP02 : w8.cell? ⟨w.heap.size, 2, none⟩ = some (.slice A0c n0c c0c) := bxP0.cell 2
         have rP0 : w.heap.size < w8.heap.size := bxP0.lt
         have qx00 : w8.cell? ⟨w5.heap.size, 0, none⟩ = some (.slice Ax0a (z0).1.length cx0a) := bxx0.cell 0
         have qx01 : w8.cell? ⟨w5.heap.size, 1, none⟩ = some (.slice Ax0b (z0).2.1.length cx0b) := bxx0.cell 1
         have qx02 : w8.cell? ⟨w5.heap.size, 2, none⟩ = some (.slice Ax0c (z0).2.2.length cx0c) := bxx0.cell 2
         have rx0 : w5.heap.size < w8.heap.size := bxx0.lt)
      | (go_at_call 35
         refine (eqParity _ _ _ _ _ _ _ _ _ _ (Nat.le_refl _) (ox0.hold fx0).reads (ot0.hold ft0).reads).mono ?_; rintro e w9 ⟨rfl, hbw9⟩
         have zw9 := hbw9.size
         have hww9 := below_then hbw9 hww8.size hww8
         replace fx0 := fx0.step hbw9
         replace ft0 := ft0.step hbw9
         replace bxP0 := bxP0.below hbw9 bxP0.lt
         replace bxx0 := bxx0.below hbw9 bxx0.lt
         rw [eqPar_self]
         have qP00 : w9.cell? ⟨w.heap.size, 0, none⟩ = some (.slice A0a n0a c0a) := bxP0.cell 0
         have qP01 : w9.cell? ⟨w.heap.size, 1, none⟩ = some (.slice A0b n0b c0b) := bxP0.cell 1
         have qP02 : w9.cell? ⟨w.heap.size, 2, none⟩ = some (.slice A0c n0c c0c) := bxP0.cell 2
         have rP0 : w.heap.size < w9.heap.size := bxP0.lt
         have qx00 : w9.cell? ⟨w5.heap.size, 0, none⟩ = some (.slice Ax0a (z0).1.length cx0a) := bxx0.cell 0
         have qx01 : w9.cell? ⟨w5.heap.size, 1, none⟩ = some (.slice Ax0b (z0).2.1.length cx0b) := bxx0.cell 1
         have qx02 : w9.cell? ⟨w5.heap.size, 2, none⟩ = some (.slice Ax0c (z0).2.2.length cx0c) := bxx0.cell 2
         have rx0 : w5.heap.size < w9.heap.size := bxx0.lt))
  clear qP00 qP01 qP02 rP0 qx00 qx01 qx02 rx0
  clear ot0 ft0
  have qP00 : w9.cell? ⟨w.heap.size, 0, none⟩ = some (.slice A0a n0a c0a) := bxP0.cell 0
  have qP01 : w9.cell? ⟨w.heap.size, 1, none⟩ = some (.slice A0b n0b c0b) := bxP0.cell 1
  have qP02 : w9.cell? ⟨w.heap.size, 2, none⟩ = some (.slice A0c n0c c0c) := bxP0.cell 2
  have qx00 : w9.cell? ⟨w5.heap.size, 0, none⟩ = some (.slice Ax0a (z0).1.length cx0a) := bxx0.cell 0
  have qx01 : w9.cell? ⟨w5.heap.size, 1, none⟩ = some (.slice Ax0b (z0).2.1.length cx0b) := bxx0.cell 1
  have qx02 : w9.cell? ⟨w5.heap.size, 2, none⟩ = some (.slice Ax0c (z0).2.2.length cx0c) := bxx0.cell 2
  go_wp2
  go_ret
  exact ⟨rfl, hww9⟩

theorem own : ownKnob Tryd.prog.godebug = none := by kernel_rfl
theorem laidOut : laidOutB Tryd.prog = true := by kernel_rfl
set_option maxRecDepth 100000 in
theorem lifted (os : Os) (started : os.Started) (H : Type) (enc : TypeId × Value → H) :
    ReturnsInHanded {} Tryd.checked os 9 .any (fun w args => (Rows.fnExactGameTextSpec.pre enc Tryd.prog Tryd.f9 Rows.fnExactGameTextRow.domain false w args ∧ laidMetH Tryd.prog Rows.fnExactGameTextRow.laid w) ∧ sizedMet enc Tryd.prog Tryd.f9 (OpenSpec.ofChange Rows.fnExactGameTextSpec) false w args) (Rows.fnExactGameTextSpec.post enc Tryd.prog Tryd.f9 false true false false) := by
  refine returns_laid (C := Tryd.checked) own started (by kernel_rfl) Tryd.func9
    (ChangeSpec.witness_shaped (enc := enc) (C := Tryd.checked) (os := os) (X := fun w _ => laidMetH Tryd.prog Rows.fnExactGameTextRow.laid w) false (World.laidAll Tryd.prog os Rows.fnExactGameTextRow.laid) #[.agg #[.slice none 0 0, .slice none 0 0, .slice none 0 0]] 8 (World.laidAll_os _ _ _)
      (World.shaped_of_ZipB (by kernel_rfl) (by kernel_rfl)) (by kernel_rfl) (by kernel_rfl) (by kernel_rfl)
      (by rw [MakeChecks.laidMetH_plain _ _ _ (by kernel_rfl)]; exact laidMet_laidAll _ (by kernel_rfl) (by kernel_rfl))) ?_
  intro W base args ds gs before hval0 hW hL hsh
  have hval : ∀ (j : Nat) t v, Tryd.f9.params[j]? = some t → args[j]? = some v → Value.okWide Tryd.prog W .any base t v := hval0
  have hW' := hW
  obtain ⟨p, q, hA0, hV, rfl, hfz, hnd⟩ := hW
  have hA : DataW.TrodAll enc Tryd.prog W 0 (fun _ => true) true Tryd.f9.params.toList args.toList ds p := hA0
  rw [Tryd.params9] at hA hval
  obtain ⟨v0, vs0, d0, ds0, p0, q0, hargs, rfl, rfl, h0, r0⟩ := trodAll_cons hA
  obtain ⟨rfl, rfl, rfl⟩ := trodAll_nil r0
  obtain rfl : args = #[v0] := by cases args; simp_all
  obtain ⟨g1, rfl⟩ := names_one hV
  have k0 := h0
  have lt0 : ∀ x ∈ p0, x.block < W.heap.size := by obtain ⟨m, hm⟩ := k0; exact DataW.trod_lt m _ _ _ hm
  obtain ⟨c0, e0, g0, y0, z0, u0, m0, l0, rfl, hy0, hz0, hu0⟩ := open_game Tryd.underlying49 Tryd.underlying47 ⟨by kernel_rfl, rfl, by kernel_rfl, rfl, by kernel_rfl, rfl, by kernel_rfl, rfl, by kernel_rfl⟩ (hval 0 49 v0 rfl rfl) h0
  obtain ⟨A0a, n0a, c0a, x0a, rfl, r0a⟩ := ri_of_trod Tryd.underlying22 Tryd.underlying2 (by kernel_rfl) hy0
  obtain ⟨A0b, n0b, c0b, x0b, rfl, r0b⟩ := rii_of_trod Tryd.underlying45 Tryd.underlying22 Tryd.underlying2 (by kernel_rfl) (by kernel_rfl) hz0
  obtain ⟨A0c, n0c, c0c, x0c, rfl, r0c⟩ := ri_of_trod Tryd.underlying22 Tryd.underlying2 (by kernel_rfl) hu0
  clear hA0 hval0
  have fT := tab_of (by kernel_rfl) hL (by kernel_rfl)
  have fP := names_of (by kernel_rfl) hL (by kernel_rfl)
  refine (walk _ _ _ _ _ _ _ _ _ (x0a, x0b, x0c) W (RPv.of r0a r0b r0c) fT fP).mono fun e W' ⟨he, bel⟩ => ?_
  subst he
  exact ⟨_, rfl, _, _, _, [], _, _, hW', trodAll_mk1 (shut_bool Tryd.underlying4 _), (trodAll_cons_mk (Below.trod laidOut (by kernel_rfl) (of_decide_eq_true (by kernel_rfl)) k0 bel lt0) trodAll_mk0), names_stay hV bel, bel.frame _, fun h => by cases h⟩
theorem over : Rows.fnExactGameTextRow.holds Tryd.pinned (OpenSpec.ofChange Rows.fnExactGameTextSpec) :=
  OpenClaim.holds_of_wide 9 Tryd.f9 rfl rfl rfl rfl rfl rfl rfl ⟨rfl, rfl, rfl, rfl, rfl⟩ rfl rfl rfl rfl rfl (by kernel_rfl) Tryd.func9 (by kernel_rfl)
    (of_decide_eq_true (by kernel_rfl)) (by unfold Func.isWrapper; first | (rw [if_pos (by decide +kernel)]; kernel_rfl) | (rw [if_neg (by decide +kernel)]; exact ⟨rfl, rfl⟩))
    (fun os started H enc _ => lifted os started H enc)
/-- no parameter wants a stand-in; the program's own looks are off -/
theorem plain (f : FuncId) (fn : Func) (hf : Tryd.pinned.checked.prog.funcNamed "loop.example/g00869/laws.FnExactGameText" = some f) (hfn : Tryd.pinned.checked.prog.funcs[f]? = some fn) :
    false = Tryd.pinned.checked.prog.looks [] ∧ ∀ (j : Nat) t, fn.params[j]? = some t → Tryd.pinned.checked.prog.wantsStandIn t = false := by
  obtain rfl : f = 9 := Option.some.inj ((show Tryd.prog.funcNamed "loop.example/g00869/laws.FnExactGameText" = some 9 by kernel_rfl).symm.trans hf) |>.symm
  obtain rfl : fn = Tryd.f9 := (Option.some.inj (Tryd.func9.symm.trans hfn)).symm
  refine ⟨by kernel_rfl, fun j t ht => ?_⟩
  rw [Tryd.params9] at ht
  have hm := Array.mem_of_getElem? ht
  simp only [Array.mem_def, List.mem_cons, List.mem_nil_iff, or_false] at hm
  subst hm
  exact (show Tryd.prog.wantsStandIn 49 = false by kernel_rfl)
/-- the statement -/
theorem proved : Rows.FnExactGameTextCardSaid :=
  Claim7.holds_tied_plain_at .later [] _ _ _ _ over (fun _ h => by cases h) (by kernel_rfl) (fun _ h => by cases h) fnExactGameText_row_tie rfl ⟨rfl, rfl⟩ (by kernel_rfl) rfl plain (by kernel_rfl)
end Go.Proofs.YtkhkdnmpbfmmeaaDoor.fnExactGameText

