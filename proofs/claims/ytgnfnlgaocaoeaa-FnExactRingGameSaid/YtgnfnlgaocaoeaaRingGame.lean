/- FnExactRingGame: for every input the law returns true, and each argument reads as it read before. No condition. -/
import Derived.Test.YtgnfnlgaocaoeaaRing2
import Derived.Test.YtgnfnlgaocaoeaaUse
import Derived.Test.YtgnfnlgaocaoeaaOpen
namespace Go.Proofs.Ytgnfnlgaocaoeaa.fnExactRingGame
open Go.ChangeShapes Go.WideShapes Go.ChangeAt Go.RowKit

set_option maxHeartbeats 1600000 in
theorem walk (A : Option Addr) (n c : Nat) (ps : List Int) (w : World) (ha : RI w A n c ps) :
    Calls Try.prog 7 #[.slice A n c] w fun e w' => e = .returned (.bool true) ∧ Below w.heap.size w w' := by
  have b1 := ha.cap; have b2 := ha.top
  by_cases hm : 1048576 < n
  · go_enter Try.func7, Try.ntmps7
    go_wp2
    go_ret
    exact ⟨rfl, Below.refl _ _⟩
  have hm0 : n ≤ 1048576 := by omega
  have hne : (okRing ps != okRing ps) = false := by simp
  have hpt := ring_tot ps
  have HL := Lib.hid ha.len
  have hww := Below.refl w.heap.size w
  go_enter Try.func7, Try.ntmps7
  go_wp2_with fail
  refine (toInts _ _ _ _ _ _ (Nat.le_refl _) (ha.keep (keeps_below hww)) hm0).mono ?_; rintro e w1 ⟨va, rfl, oa, hbw1⟩
  obtain ⟨Aa, ca, rfl⟩ := oa.form
  have zw1 := hbw1.size
  have hww1 := below_then hbw1 hww.size hww
  have fa := Far.refl w.heap.size w1
  go_wp2_with fail
  refine (specRing _ _ _ _ _ _ (Nat.le_refl _) (oa.hold fa).reads).mono ?_; rintro e w2 ⟨s0y, s1y, s2y, rfl, oy, hbw2⟩
  obtain ⟨A0y, c0y, A1y, c1y, A2y, c2y, rfl, rfl, rfl⟩ := oy.form
  have zw2 := hbw2.size
  have hww2 := below_then hbw2 hww1.size hww1
  replace fa := fa.step hbw2
  have fy := Far.refl w1.heap.size w2
  clear oa fa
  go_wp2_with fail
  have hww3 : Below w.heap.size w (w2.alloc (.cells #[.slice A0y (ringP ps).1.length c0y, .slice A1y (ringP ps).2.1.length c1y, .slice A2y (ringP ps).2.2.length c2y] 52)) := below_alloc (Nat.le_refl _) hww2
  have zw3 : w2.heap.size + 1 = (w2.alloc (.cells #[.slice A0y (ringP ps).1.length c0y, .slice A1y (ringP ps).2.1.length c1y, .slice A2y (ringP ps).2.2.length c2y] 52)).heap.size := by simp
  replace fy := fy.step (below_alloc (o := (.cells #[.slice A0y (ringP ps).1.length c0y, .slice A1y (ringP ps).2.1.length c1y, .slice A2y (ringP ps).2.2.length c2y] 52)) (Nat.le_refl _) (Below.refl _ _))
  have bxy := Box.new w2 52 #[.slice A0y (ringP ps).1.length c0y, .slice A1y (ringP ps).2.1.length c1y, .slice A2y (ringP ps).2.2.length c2y]
  generalize (w2.alloc (.cells #[.slice A0y (ringP ps).1.length c0y, .slice A1y (ringP ps).2.1.length c1y, .slice A2y (ringP ps).2.2.length c2y] 52)) = w3 at hww3 zw3 fy bxy ⊢
  refine (toInts _ _ _ _ _ _ (Nat.le_refl _) (ha.keep (keeps_below hww3)) hm0).mono ?_; rintro e w4 ⟨vx, rfl, ox, hbw4⟩
  obtain ⟨Ax, cx, rfl⟩ := ox.form
  have zw4 := hbw4.size
  have hww4 := below_then hbw4 hww3.size hww3
  replace fy := fy.step hbw4
  replace bxy := bxy.below hbw4 bxy.lt
  have fx := Far.refl w3.heap.size w4
  have qy0 : w4.cell? ⟨w2.heap.size, 0, none⟩ = some (.slice A0y (ringP ps).1.length c0y) := bxy.cell 0
  have py0 : ∀ o, (w4.alloc o).cell? ⟨w2.heap.size, 0, none⟩ = some (.slice A0y (ringP ps).1.length c0y) := fun o => keepA qy0
  have qy1 : w4.cell? ⟨w2.heap.size, 1, none⟩ = some (.slice A1y (ringP ps).2.1.length c1y) := bxy.cell 1
  have py1 : ∀ o, (w4.alloc o).cell? ⟨w2.heap.size, 1, none⟩ = some (.slice A1y (ringP ps).2.1.length c1y) := fun o => keepA qy1
  have qy2 : w4.cell? ⟨w2.heap.size, 2, none⟩ = some (.slice A2y (ringP ps).2.2.length c2y) := bxy.cell 2
  have py2 : ∀ o, (w4.alloc o).cell? ⟨w2.heap.size, 2, none⟩ = some (.slice A2y (ringP ps).2.2.length c2y) := fun o => keepA qy2
  go_wp2_with fail
  clear qy0 py0 qy1 py1 qy2 py2
  refine (implRing _ _ _ _ _ _ (Nat.le_refl _) (ox.hold fx).reads).mono ?_; rintro e w5 ⟨s0g, s1g, s2g, rfl, og, hbw5⟩
  obtain ⟨A0g, c0g, A1g, c1g, A2g, c2g, rfl, rfl, rfl⟩ := og.form
  have zw5 := hbw5.size
  have hww5 := below_then hbw5 hww4.size hww4
  replace fy := fy.step hbw5
  replace fx := fx.step hbw5
  replace bxy := bxy.below hbw5 bxy.lt
  have fg := Far.refl w4.heap.size w5
  have qy0 : w5.cell? ⟨w2.heap.size, 0, none⟩ = some (.slice A0y (ringP ps).1.length c0y) := bxy.cell 0
  have py0 : ∀ o, (w5.alloc o).cell? ⟨w2.heap.size, 0, none⟩ = some (.slice A0y (ringP ps).1.length c0y) := fun o => keepA qy0
  have qy1 : w5.cell? ⟨w2.heap.size, 1, none⟩ = some (.slice A1y (ringP ps).2.1.length c1y) := bxy.cell 1
  have py1 : ∀ o, (w5.alloc o).cell? ⟨w2.heap.size, 1, none⟩ = some (.slice A1y (ringP ps).2.1.length c1y) := fun o => keepA qy1
  have qy2 : w5.cell? ⟨w2.heap.size, 2, none⟩ = some (.slice A2y (ringP ps).2.2.length c2y) := bxy.cell 2
  have py2 : ∀ o, (w5.alloc o).cell? ⟨w2.heap.size, 2, none⟩ = some (.slice A2y (ringP ps).2.2.length c2y) := fun o => keepA qy2
  go_wp2_with fail
  clear qy0 py0 qy1 py1 qy2 py2
  have hww6 : Below w.heap.size w (w5.alloc (.cells #[.slice A0g (ringP ps).1.length c0g, .slice A1g (ringP ps).2.1.length c1g, .slice A2g (ringP ps).2.2.length c2g] 52)) := below_alloc (Nat.le_refl _) hww5
  have zw6 : w5.heap.size + 1 = (w5.alloc (.cells #[.slice A0g (ringP ps).1.length c0g, .slice A1g (ringP ps).2.1.length c1g, .slice A2g (ringP ps).2.2.length c2g] 52)).heap.size := by simp
  replace fy := fy.step (below_alloc (o := (.cells #[.slice A0g (ringP ps).1.length c0g, .slice A1g (ringP ps).2.1.length c1g, .slice A2g (ringP ps).2.2.length c2g] 52)) (Nat.le_refl _) (Below.refl _ _))
  replace fx := fx.step (below_alloc (o := (.cells #[.slice A0g (ringP ps).1.length c0g, .slice A1g (ringP ps).2.1.length c1g, .slice A2g (ringP ps).2.2.length c2g] 52)) (Nat.le_refl _) (Below.refl _ _))
  replace fg := fg.step (below_alloc (o := (.cells #[.slice A0g (ringP ps).1.length c0g, .slice A1g (ringP ps).2.1.length c1g, .slice A2g (ringP ps).2.2.length c2g] 52)) (Nat.le_refl _) (Below.refl _ _))
  replace bxy := bxy.alloc (.cells #[.slice A0g (ringP ps).1.length c0g, .slice A1g (ringP ps).2.1.length c1g, .slice A2g (ringP ps).2.2.length c2g] 52)
  have bxg := Box.new w5 52 #[.slice A0g (ringP ps).1.length c0g, .slice A1g (ringP ps).2.1.length c1g, .slice A2g (ringP ps).2.2.length c2g]
  generalize (w5.alloc (.cells #[.slice A0g (ringP ps).1.length c0g, .slice A1g (ringP ps).2.1.length c1g, .slice A2g (ringP ps).2.2.length c2g] 52)) = w6 at hww6 zw6 fy fx fg bxy bxg ⊢
  refine (eqParity _ _ _ _ _ _ _ _ _ _ (Nat.le_refl _) (og.hold fg).reads (oy.hold fy).reads).mono ?_; rintro e w7 ⟨rfl, hbw7⟩
  have zw7 := hbw7.size
  have hww7 := below_then hbw7 hww6.size hww6
  replace fy := fy.step hbw7
  replace fx := fx.step hbw7
  replace fg := fg.step hbw7
  replace bxy := bxy.below hbw7 bxy.lt
  replace bxg := bxg.below hbw7 bxg.lt
  rw [eqPar_self]
  have qy0 : w7.cell? ⟨w2.heap.size, 0, none⟩ = some (.slice A0y (ringP ps).1.length c0y) := bxy.cell 0
  have py0 : ∀ o, (w7.alloc o).cell? ⟨w2.heap.size, 0, none⟩ = some (.slice A0y (ringP ps).1.length c0y) := fun o => keepA qy0
  have qy1 : w7.cell? ⟨w2.heap.size, 1, none⟩ = some (.slice A1y (ringP ps).2.1.length c1y) := bxy.cell 1
  have py1 : ∀ o, (w7.alloc o).cell? ⟨w2.heap.size, 1, none⟩ = some (.slice A1y (ringP ps).2.1.length c1y) := fun o => keepA qy1
  have qy2 : w7.cell? ⟨w2.heap.size, 2, none⟩ = some (.slice A2y (ringP ps).2.2.length c2y) := bxy.cell 2
  have py2 : ∀ o, (w7.alloc o).cell? ⟨w2.heap.size, 2, none⟩ = some (.slice A2y (ringP ps).2.2.length c2y) := fun o => keepA qy2
  have qg0 : w7.cell? ⟨w5.heap.size, 0, none⟩ = some (.slice A0g (ringP ps).1.length c0g) := bxg.cell 0
  have pg0 : ∀ o, (w7.alloc o).cell? ⟨w5.heap.size, 0, none⟩ = some (.slice A0g (ringP ps).1.length c0g) := fun o => keepA qg0
  have qg1 : w7.cell? ⟨w5.heap.size, 1, none⟩ = some (.slice A1g (ringP ps).2.1.length c1g) := bxg.cell 1
  have pg1 : ∀ o, (w7.alloc o).cell? ⟨w5.heap.size, 1, none⟩ = some (.slice A1g (ringP ps).2.1.length c1g) := fun o => keepA qg1
  have qg2 : w7.cell? ⟨w5.heap.size, 2, none⟩ = some (.slice A2g (ringP ps).2.2.length c2g) := bxg.cell 2
  have pg2 : ∀ o, (w7.alloc o).cell? ⟨w5.heap.size, 2, none⟩ = some (.slice A2g (ringP ps).2.2.length c2g) := fun o => keepA qg2
  go_wp2_with fail
  clear qy0 py0 qy1 py1 qy2 py2 qg0 pg0 qg1 pg1 qg2 pg2
  refine (toInts _ _ _ _ _ _ (Nat.le_refl _) (ha.keep (keeps_below hww7)) hm0).mono ?_; rintro e w8 ⟨vb, rfl, ob, hbw8⟩
  obtain ⟨Ab, cb, rfl⟩ := ob.form
  have zw8 := hbw8.size
  have hww8 := below_then hbw8 hww7.size hww7
  replace fy := fy.step hbw8
  replace fx := fx.step hbw8
  replace fg := fg.step hbw8
  replace bxy := bxy.below hbw8 bxy.lt
  replace bxg := bxg.below hbw8 bxg.lt
  have fb := Far.refl w7.heap.size w8
  have qy0 : w8.cell? ⟨w2.heap.size, 0, none⟩ = some (.slice A0y (ringP ps).1.length c0y) := bxy.cell 0
  have py0 : ∀ o, (w8.alloc o).cell? ⟨w2.heap.size, 0, none⟩ = some (.slice A0y (ringP ps).1.length c0y) := fun o => keepA qy0
  have qy1 : w8.cell? ⟨w2.heap.size, 1, none⟩ = some (.slice A1y (ringP ps).2.1.length c1y) := bxy.cell 1
  have py1 : ∀ o, (w8.alloc o).cell? ⟨w2.heap.size, 1, none⟩ = some (.slice A1y (ringP ps).2.1.length c1y) := fun o => keepA qy1
  have qy2 : w8.cell? ⟨w2.heap.size, 2, none⟩ = some (.slice A2y (ringP ps).2.2.length c2y) := bxy.cell 2
  have py2 : ∀ o, (w8.alloc o).cell? ⟨w2.heap.size, 2, none⟩ = some (.slice A2y (ringP ps).2.2.length c2y) := fun o => keepA qy2
  have qg0 : w8.cell? ⟨w5.heap.size, 0, none⟩ = some (.slice A0g (ringP ps).1.length c0g) := bxg.cell 0
  have pg0 : ∀ o, (w8.alloc o).cell? ⟨w5.heap.size, 0, none⟩ = some (.slice A0g (ringP ps).1.length c0g) := fun o => keepA qg0
  have qg1 : w8.cell? ⟨w5.heap.size, 1, none⟩ = some (.slice A1g (ringP ps).2.1.length c1g) := bxg.cell 1
  have pg1 : ∀ o, (w8.alloc o).cell? ⟨w5.heap.size, 1, none⟩ = some (.slice A1g (ringP ps).2.1.length c1g) := fun o => keepA qg1
  have qg2 : w8.cell? ⟨w5.heap.size, 2, none⟩ = some (.slice A2g (ringP ps).2.2.length c2g) := bxg.cell 2
  have pg2 : ∀ o, (w8.alloc o).cell? ⟨w5.heap.size, 2, none⟩ = some (.slice A2g (ringP ps).2.2.length c2g) := fun o => keepA qg2
  go_wp2_with fail
  clear qy0 py0 qy1 py1 qy2 py2 qg0 pg0 qg1 pg1 qg2 pg2
  refine (eqInts _ _ _ _ _ _ _ _ _ (ox.hold fx).reads (ob.hold fb).reads).mono ?_; rintro e w9 ⟨rfl, hqtw9⟩
  have hbw9 := below_qt hqtw9 (Below.refl w8.heap.size w8)
  have zw9 := hbw9.size
  have hww9 := below_then hbw9 hww8.size hww8
  replace fy := fy.step hbw9
  replace fx := fx.step hbw9
  replace fg := fg.step hbw9
  replace fb := fb.step hbw9
  replace bxy := bxy.below hbw9 bxy.lt
  replace bxg := bxg.below hbw9 bxg.lt
  rw [eqL_self]
  clear ob fb
  have qy0 : w9.cell? ⟨w2.heap.size, 0, none⟩ = some (.slice A0y (ringP ps).1.length c0y) := bxy.cell 0
  have py0 : ∀ o, (w9.alloc o).cell? ⟨w2.heap.size, 0, none⟩ = some (.slice A0y (ringP ps).1.length c0y) := fun o => keepA qy0
  have qy1 : w9.cell? ⟨w2.heap.size, 1, none⟩ = some (.slice A1y (ringP ps).2.1.length c1y) := bxy.cell 1
  have py1 : ∀ o, (w9.alloc o).cell? ⟨w2.heap.size, 1, none⟩ = some (.slice A1y (ringP ps).2.1.length c1y) := fun o => keepA qy1
  have qy2 : w9.cell? ⟨w2.heap.size, 2, none⟩ = some (.slice A2y (ringP ps).2.2.length c2y) := bxy.cell 2
  have py2 : ∀ o, (w9.alloc o).cell? ⟨w2.heap.size, 2, none⟩ = some (.slice A2y (ringP ps).2.2.length c2y) := fun o => keepA qy2
  have qg0 : w9.cell? ⟨w5.heap.size, 0, none⟩ = some (.slice A0g (ringP ps).1.length c0g) := bxg.cell 0
  have pg0 : ∀ o, (w9.alloc o).cell? ⟨w5.heap.size, 0, none⟩ = some (.slice A0g (ringP ps).1.length c0g) := fun o => keepA qg0
  have qg1 : w9.cell? ⟨w5.heap.size, 1, none⟩ = some (.slice A1g (ringP ps).2.1.length c1g) := bxg.cell 1
  have pg1 : ∀ o, (w9.alloc o).cell? ⟨w5.heap.size, 1, none⟩ = some (.slice A1g (ringP ps).2.1.length c1g) := fun o => keepA qg1
  have qg2 : w9.cell? ⟨w5.heap.size, 2, none⟩ = some (.slice A2g (ringP ps).2.2.length c2g) := bxg.cell 2
  have pg2 : ∀ o, (w9.alloc o).cell? ⟨w5.heap.size, 2, none⟩ = some (.slice A2g (ringP ps).2.2.length c2g) := fun o => keepA qg2
  go_wp2_with fail
  clear qy0 py0 qy1 py1 qy2 py2 qg0 pg0 qg1 pg1 qg2 pg2
  refine (markIntsU _ _ _ _ 1 _ _ _ ox fx (by omega) (by have := HL.out; omega)).mono ?_; rintro e w10 ⟨rfl, onx, chw10⟩
  have zw10 := chw10.size
  have blw10 : Below w3.heap.size w9 w10 := chw10.below (by omega) (fun x h => h.1)
  have hww10 := below_then blw10 (by omega) hww9
  replace fy := fy.mark chw10 (by omega)
  replace fg := fg.mark chw10 (by omega)
  clear ox fx; have ox := onx; have fx := Far.refl w3.heap.size w10
  replace bxy := bxy.chg chw10 (by omega)
  replace bxg := bxg.chg chw10 (by omega)
  clear ox fx
  have qy0 : w10.cell? ⟨w2.heap.size, 0, none⟩ = some (.slice A0y (ringP ps).1.length c0y) := bxy.cell 0
  have py0 : ∀ o, (w10.alloc o).cell? ⟨w2.heap.size, 0, none⟩ = some (.slice A0y (ringP ps).1.length c0y) := fun o => keepA qy0
  have qy1 : w10.cell? ⟨w2.heap.size, 1, none⟩ = some (.slice A1y (ringP ps).2.1.length c1y) := bxy.cell 1
  have py1 : ∀ o, (w10.alloc o).cell? ⟨w2.heap.size, 1, none⟩ = some (.slice A1y (ringP ps).2.1.length c1y) := fun o => keepA qy1
  have qy2 : w10.cell? ⟨w2.heap.size, 2, none⟩ = some (.slice A2y (ringP ps).2.2.length c2y) := bxy.cell 2
  have py2 : ∀ o, (w10.alloc o).cell? ⟨w2.heap.size, 2, none⟩ = some (.slice A2y (ringP ps).2.2.length c2y) := fun o => keepA qy2
  have qg0 : w10.cell? ⟨w5.heap.size, 0, none⟩ = some (.slice A0g (ringP ps).1.length c0g) := bxg.cell 0
  have pg0 : ∀ o, (w10.alloc o).cell? ⟨w5.heap.size, 0, none⟩ = some (.slice A0g (ringP ps).1.length c0g) := fun o => keepA qg0
  have qg1 : w10.cell? ⟨w5.heap.size, 1, none⟩ = some (.slice A1g (ringP ps).2.1.length c1g) := bxg.cell 1
  have pg1 : ∀ o, (w10.alloc o).cell? ⟨w5.heap.size, 1, none⟩ = some (.slice A1g (ringP ps).2.1.length c1g) := fun o => keepA qg1
  have qg2 : w10.cell? ⟨w5.heap.size, 2, none⟩ = some (.slice A2g (ringP ps).2.2.length c2g) := bxg.cell 2
  have pg2 : ∀ o, (w10.alloc o).cell? ⟨w5.heap.size, 2, none⟩ = some (.slice A2g (ringP ps).2.2.length c2g) := fun o => keepA qg2
  go_wp2_with fail
  clear qy0 py0 qy1 py1 qy2 py2 qg0 pg0 qg1 pg1 qg2 pg2
  refine (eqParity _ _ _ _ _ _ _ _ _ _ (Nat.le_refl _) (og.hold fg).reads (oy.hold fy).reads).mono ?_; rintro e w11 ⟨rfl, hbw11⟩
  have zw11 := hbw11.size
  have hww11 := below_then hbw11 hww10.size hww10
  replace fy := fy.step hbw11
  replace fg := fg.step hbw11
  replace bxy := bxy.below hbw11 bxy.lt
  replace bxg := bxg.below hbw11 bxg.lt
  rw [eqPar_self]
  have qy0 : w11.cell? ⟨w2.heap.size, 0, none⟩ = some (.slice A0y (ringP ps).1.length c0y) := bxy.cell 0
  have py0 : ∀ o, (w11.alloc o).cell? ⟨w2.heap.size, 0, none⟩ = some (.slice A0y (ringP ps).1.length c0y) := fun o => keepA qy0
  have qy1 : w11.cell? ⟨w2.heap.size, 1, none⟩ = some (.slice A1y (ringP ps).2.1.length c1y) := bxy.cell 1
  have py1 : ∀ o, (w11.alloc o).cell? ⟨w2.heap.size, 1, none⟩ = some (.slice A1y (ringP ps).2.1.length c1y) := fun o => keepA qy1
  have qy2 : w11.cell? ⟨w2.heap.size, 2, none⟩ = some (.slice A2y (ringP ps).2.2.length c2y) := bxy.cell 2
  have py2 : ∀ o, (w11.alloc o).cell? ⟨w2.heap.size, 2, none⟩ = some (.slice A2y (ringP ps).2.2.length c2y) := fun o => keepA qy2
  have qg0 : w11.cell? ⟨w5.heap.size, 0, none⟩ = some (.slice A0g (ringP ps).1.length c0g) := bxg.cell 0
  have pg0 : ∀ o, (w11.alloc o).cell? ⟨w5.heap.size, 0, none⟩ = some (.slice A0g (ringP ps).1.length c0g) := fun o => keepA qg0
  have qg1 : w11.cell? ⟨w5.heap.size, 1, none⟩ = some (.slice A1g (ringP ps).2.1.length c1g) := bxg.cell 1
  have pg1 : ∀ o, (w11.alloc o).cell? ⟨w5.heap.size, 1, none⟩ = some (.slice A1g (ringP ps).2.1.length c1g) := fun o => keepA qg1
  have qg2 : w11.cell? ⟨w5.heap.size, 2, none⟩ = some (.slice A2g (ringP ps).2.2.length c2g) := bxg.cell 2
  have pg2 : ∀ o, (w11.alloc o).cell? ⟨w5.heap.size, 2, none⟩ = some (.slice A2g (ringP ps).2.2.length c2g) := fun o => keepA qg2
  go_wp2_with fail
  clear qy0 py0 qy1 py1 qy2 py2 qg0 pg0 qg1 pg1 qg2 pg2
  refine (markParityU _ _ _ _ 1 _ _ _ (by omega) og fg (by omega) (by omega)).mono ?_; rintro e w12 ⟨rfl, ong, chw12⟩
  have zw12 := chw12.size
  have blw12 : Below w4.heap.size w11 w12 := chw12.below (by omega) (fun x h => h.1)
  have hww12 := below_then blw12 (by omega) hww11
  replace fy := fy.mark chw12 (by omega)
  clear og fg; have og := ong; have fg := Far.refl w4.heap.size w12
  replace bxy := bxy.chg chw12 (by omega)
  replace bxg := bxg.chg chw12 (by omega)
  have qy0 : w12.cell? ⟨w2.heap.size, 0, none⟩ = some (.slice A0y (ringP ps).1.length c0y) := bxy.cell 0
  have py0 : ∀ o, (w12.alloc o).cell? ⟨w2.heap.size, 0, none⟩ = some (.slice A0y (ringP ps).1.length c0y) := fun o => keepA qy0
  have qy1 : w12.cell? ⟨w2.heap.size, 1, none⟩ = some (.slice A1y (ringP ps).2.1.length c1y) := bxy.cell 1
  have py1 : ∀ o, (w12.alloc o).cell? ⟨w2.heap.size, 1, none⟩ = some (.slice A1y (ringP ps).2.1.length c1y) := fun o => keepA qy1
  have qy2 : w12.cell? ⟨w2.heap.size, 2, none⟩ = some (.slice A2y (ringP ps).2.2.length c2y) := bxy.cell 2
  have py2 : ∀ o, (w12.alloc o).cell? ⟨w2.heap.size, 2, none⟩ = some (.slice A2y (ringP ps).2.2.length c2y) := fun o => keepA qy2
  have qg0 : w12.cell? ⟨w5.heap.size, 0, none⟩ = some (.slice A0g (ringP ps).1.length c0g) := bxg.cell 0
  have pg0 : ∀ o, (w12.alloc o).cell? ⟨w5.heap.size, 0, none⟩ = some (.slice A0g (ringP ps).1.length c0g) := fun o => keepA qg0
  have qg1 : w12.cell? ⟨w5.heap.size, 1, none⟩ = some (.slice A1g (ringP ps).2.1.length c1g) := bxg.cell 1
  have pg1 : ∀ o, (w12.alloc o).cell? ⟨w5.heap.size, 1, none⟩ = some (.slice A1g (ringP ps).2.1.length c1g) := fun o => keepA qg1
  have qg2 : w12.cell? ⟨w5.heap.size, 2, none⟩ = some (.slice A2g (ringP ps).2.2.length c2g) := bxg.cell 2
  have pg2 : ∀ o, (w12.alloc o).cell? ⟨w5.heap.size, 2, none⟩ = some (.slice A2g (ringP ps).2.2.length c2g) := fun o => keepA qg2
  go_wp2_with fail
  clear qy0 py0 qy1 py1 qy2 py2 qg0 pg0 qg1 pg1 qg2 pg2
  refine (heldParity _ _ _ (ringP ps) 1 _ _ (Nat.le_refl _) (og.hold fg).reads (by omega) (by omega)).mono ?_; rintro e w13 ⟨rfl, hbw13⟩
  have zw13 := hbw13.size
  have hww13 := below_then hbw13 hww12.size hww12
  replace fy := fy.step hbw13
  replace fg := fg.step hbw13
  replace bxy := bxy.below hbw13 bxy.lt
  replace bxg := bxg.below hbw13 bxg.lt
  have qy0 : w13.cell? ⟨w2.heap.size, 0, none⟩ = some (.slice A0y (ringP ps).1.length c0y) := bxy.cell 0
  have py0 : ∀ o, (w13.alloc o).cell? ⟨w2.heap.size, 0, none⟩ = some (.slice A0y (ringP ps).1.length c0y) := fun o => keepA qy0
  have qy1 : w13.cell? ⟨w2.heap.size, 1, none⟩ = some (.slice A1y (ringP ps).2.1.length c1y) := bxy.cell 1
  have py1 : ∀ o, (w13.alloc o).cell? ⟨w2.heap.size, 1, none⟩ = some (.slice A1y (ringP ps).2.1.length c1y) := fun o => keepA qy1
  have qy2 : w13.cell? ⟨w2.heap.size, 2, none⟩ = some (.slice A2y (ringP ps).2.2.length c2y) := bxy.cell 2
  have py2 : ∀ o, (w13.alloc o).cell? ⟨w2.heap.size, 2, none⟩ = some (.slice A2y (ringP ps).2.2.length c2y) := fun o => keepA qy2
  have qg0 : w13.cell? ⟨w5.heap.size, 0, none⟩ = some (.slice A0g (ringP ps).1.length c0g) := bxg.cell 0
  have pg0 : ∀ o, (w13.alloc o).cell? ⟨w5.heap.size, 0, none⟩ = some (.slice A0g (ringP ps).1.length c0g) := fun o => keepA qg0
  have qg1 : w13.cell? ⟨w5.heap.size, 1, none⟩ = some (.slice A1g (ringP ps).2.1.length c1g) := bxg.cell 1
  have pg1 : ∀ o, (w13.alloc o).cell? ⟨w5.heap.size, 1, none⟩ = some (.slice A1g (ringP ps).2.1.length c1g) := fun o => keepA qg1
  have qg2 : w13.cell? ⟨w5.heap.size, 2, none⟩ = some (.slice A2g (ringP ps).2.2.length c2g) := bxg.cell 2
  have pg2 : ∀ o, (w13.alloc o).cell? ⟨w5.heap.size, 2, none⟩ = some (.slice A2g (ringP ps).2.2.length c2g) := fun o => keepA qg2
  go_wp2_with fail
  clear qy0 py0 qy1 py1 qy2 py2 qg0 pg0 qg1 pg1 qg2 pg2
  refine (toInts _ _ _ _ _ _ (Nat.le_refl _) (ha.keep (keeps_below hww13)) hm0).mono ?_; rintro e w14 ⟨vd, rfl, od, hbw14⟩
  obtain ⟨Ad, cd, rfl⟩ := od.form
  have zw14 := hbw14.size
  have hww14 := below_then hbw14 hww13.size hww13
  replace fy := fy.step hbw14
  replace fg := fg.step hbw14
  replace bxy := bxy.below hbw14 bxy.lt
  replace bxg := bxg.below hbw14 bxg.lt
  have fd := Far.refl w13.heap.size w14
  have qy0 : w14.cell? ⟨w2.heap.size, 0, none⟩ = some (.slice A0y (ringP ps).1.length c0y) := bxy.cell 0
  have py0 : ∀ o, (w14.alloc o).cell? ⟨w2.heap.size, 0, none⟩ = some (.slice A0y (ringP ps).1.length c0y) := fun o => keepA qy0
  have qy1 : w14.cell? ⟨w2.heap.size, 1, none⟩ = some (.slice A1y (ringP ps).2.1.length c1y) := bxy.cell 1
  have py1 : ∀ o, (w14.alloc o).cell? ⟨w2.heap.size, 1, none⟩ = some (.slice A1y (ringP ps).2.1.length c1y) := fun o => keepA qy1
  have qy2 : w14.cell? ⟨w2.heap.size, 2, none⟩ = some (.slice A2y (ringP ps).2.2.length c2y) := bxy.cell 2
  have py2 : ∀ o, (w14.alloc o).cell? ⟨w2.heap.size, 2, none⟩ = some (.slice A2y (ringP ps).2.2.length c2y) := fun o => keepA qy2
  have qg0 : w14.cell? ⟨w5.heap.size, 0, none⟩ = some (.slice A0g (ringP ps).1.length c0g) := bxg.cell 0
  have pg0 : ∀ o, (w14.alloc o).cell? ⟨w5.heap.size, 0, none⟩ = some (.slice A0g (ringP ps).1.length c0g) := fun o => keepA qg0
  have qg1 : w14.cell? ⟨w5.heap.size, 1, none⟩ = some (.slice A1g (ringP ps).2.1.length c1g) := bxg.cell 1
  have pg1 : ∀ o, (w14.alloc o).cell? ⟨w5.heap.size, 1, none⟩ = some (.slice A1g (ringP ps).2.1.length c1g) := fun o => keepA qg1
  have qg2 : w14.cell? ⟨w5.heap.size, 2, none⟩ = some (.slice A2g (ringP ps).2.2.length c2g) := bxg.cell 2
  have pg2 : ∀ o, (w14.alloc o).cell? ⟨w5.heap.size, 2, none⟩ = some (.slice A2g (ringP ps).2.2.length c2g) := fun o => keepA qg2
  go_wp2_with fail
  clear qy0 py0 qy1 py1 qy2 py2 qg0 pg0 qg1 pg1 qg2 pg2
  refine (implRing _ _ _ _ _ _ (Nat.le_refl _) (od.hold fd).reads).mono ?_; rintro e w15 ⟨s0h, s1h, s2h, rfl, oh, hbw15⟩
  obtain ⟨A0h, c0h, A1h, c1h, A2h, c2h, rfl, rfl, rfl⟩ := oh.form
  have zw15 := hbw15.size
  have hww15 := below_then hbw15 hww14.size hww14
  replace fy := fy.step hbw15
  replace fg := fg.step hbw15
  replace fd := fd.step hbw15
  replace bxy := bxy.below hbw15 bxy.lt
  replace bxg := bxg.below hbw15 bxg.lt
  have fh := Far.refl w14.heap.size w15
  clear od fd
  have qy0 : w15.cell? ⟨w2.heap.size, 0, none⟩ = some (.slice A0y (ringP ps).1.length c0y) := bxy.cell 0
  have py0 : ∀ o, (w15.alloc o).cell? ⟨w2.heap.size, 0, none⟩ = some (.slice A0y (ringP ps).1.length c0y) := fun o => keepA qy0
  have qy1 : w15.cell? ⟨w2.heap.size, 1, none⟩ = some (.slice A1y (ringP ps).2.1.length c1y) := bxy.cell 1
  have py1 : ∀ o, (w15.alloc o).cell? ⟨w2.heap.size, 1, none⟩ = some (.slice A1y (ringP ps).2.1.length c1y) := fun o => keepA qy1
  have qy2 : w15.cell? ⟨w2.heap.size, 2, none⟩ = some (.slice A2y (ringP ps).2.2.length c2y) := bxy.cell 2
  have py2 : ∀ o, (w15.alloc o).cell? ⟨w2.heap.size, 2, none⟩ = some (.slice A2y (ringP ps).2.2.length c2y) := fun o => keepA qy2
  have qg0 : w15.cell? ⟨w5.heap.size, 0, none⟩ = some (.slice A0g (ringP ps).1.length c0g) := bxg.cell 0
  have pg0 : ∀ o, (w15.alloc o).cell? ⟨w5.heap.size, 0, none⟩ = some (.slice A0g (ringP ps).1.length c0g) := fun o => keepA qg0
  have qg1 : w15.cell? ⟨w5.heap.size, 1, none⟩ = some (.slice A1g (ringP ps).2.1.length c1g) := bxg.cell 1
  have pg1 : ∀ o, (w15.alloc o).cell? ⟨w5.heap.size, 1, none⟩ = some (.slice A1g (ringP ps).2.1.length c1g) := fun o => keepA qg1
  have qg2 : w15.cell? ⟨w5.heap.size, 2, none⟩ = some (.slice A2g (ringP ps).2.2.length c2g) := bxg.cell 2
  have pg2 : ∀ o, (w15.alloc o).cell? ⟨w5.heap.size, 2, none⟩ = some (.slice A2g (ringP ps).2.2.length c2g) := fun o => keepA qg2
  go_wp2_with fail
  clear qy0 py0 qy1 py1 qy2 py2 qg0 pg0 qg1 pg1 qg2 pg2
  have hww16 : Below w.heap.size w (w15.alloc (.cells #[.slice A0h (ringP ps).1.length c0h, .slice A1h (ringP ps).2.1.length c1h, .slice A2h (ringP ps).2.2.length c2h] 52)) := below_alloc (Nat.le_refl _) hww15
  have zw16 : w15.heap.size + 1 = (w15.alloc (.cells #[.slice A0h (ringP ps).1.length c0h, .slice A1h (ringP ps).2.1.length c1h, .slice A2h (ringP ps).2.2.length c2h] 52)).heap.size := by simp
  replace fy := fy.step (below_alloc (o := (.cells #[.slice A0h (ringP ps).1.length c0h, .slice A1h (ringP ps).2.1.length c1h, .slice A2h (ringP ps).2.2.length c2h] 52)) (Nat.le_refl _) (Below.refl _ _))
  replace fg := fg.step (below_alloc (o := (.cells #[.slice A0h (ringP ps).1.length c0h, .slice A1h (ringP ps).2.1.length c1h, .slice A2h (ringP ps).2.2.length c2h] 52)) (Nat.le_refl _) (Below.refl _ _))
  replace fh := fh.step (below_alloc (o := (.cells #[.slice A0h (ringP ps).1.length c0h, .slice A1h (ringP ps).2.1.length c1h, .slice A2h (ringP ps).2.2.length c2h] 52)) (Nat.le_refl _) (Below.refl _ _))
  replace bxy := bxy.alloc (.cells #[.slice A0h (ringP ps).1.length c0h, .slice A1h (ringP ps).2.1.length c1h, .slice A2h (ringP ps).2.2.length c2h] 52)
  replace bxg := bxg.alloc (.cells #[.slice A0h (ringP ps).1.length c0h, .slice A1h (ringP ps).2.1.length c1h, .slice A2h (ringP ps).2.2.length c2h] 52)
  have bxh := Box.new w15 52 #[.slice A0h (ringP ps).1.length c0h, .slice A1h (ringP ps).2.1.length c1h, .slice A2h (ringP ps).2.2.length c2h]
  generalize (w15.alloc (.cells #[.slice A0h (ringP ps).1.length c0h, .slice A1h (ringP ps).2.1.length c1h, .slice A2h (ringP ps).2.2.length c2h] 52)) = w16 at hww16 zw16 fy fg fh bxy bxg bxh ⊢
  refine (eqParity _ _ _ _ _ _ _ _ _ _ (Nat.le_refl _) (oh.hold fh).reads (oy.hold fy).reads).mono ?_; rintro e w17 ⟨rfl, hbw17⟩
  have zw17 := hbw17.size
  have hww17 := below_then hbw17 hww16.size hww16
  replace fy := fy.step hbw17
  replace fg := fg.step hbw17
  replace fh := fh.step hbw17
  replace bxy := bxy.below hbw17 bxy.lt
  replace bxg := bxg.below hbw17 bxg.lt
  replace bxh := bxh.below hbw17 bxh.lt
  rw [eqPar_self]
  have qy0 : w17.cell? ⟨w2.heap.size, 0, none⟩ = some (.slice A0y (ringP ps).1.length c0y) := bxy.cell 0
  have py0 : ∀ o, (w17.alloc o).cell? ⟨w2.heap.size, 0, none⟩ = some (.slice A0y (ringP ps).1.length c0y) := fun o => keepA qy0
  have qy1 : w17.cell? ⟨w2.heap.size, 1, none⟩ = some (.slice A1y (ringP ps).2.1.length c1y) := bxy.cell 1
  have py1 : ∀ o, (w17.alloc o).cell? ⟨w2.heap.size, 1, none⟩ = some (.slice A1y (ringP ps).2.1.length c1y) := fun o => keepA qy1
  have qy2 : w17.cell? ⟨w2.heap.size, 2, none⟩ = some (.slice A2y (ringP ps).2.2.length c2y) := bxy.cell 2
  have py2 : ∀ o, (w17.alloc o).cell? ⟨w2.heap.size, 2, none⟩ = some (.slice A2y (ringP ps).2.2.length c2y) := fun o => keepA qy2
  have qg0 : w17.cell? ⟨w5.heap.size, 0, none⟩ = some (.slice A0g (ringP ps).1.length c0g) := bxg.cell 0
  have pg0 : ∀ o, (w17.alloc o).cell? ⟨w5.heap.size, 0, none⟩ = some (.slice A0g (ringP ps).1.length c0g) := fun o => keepA qg0
  have qg1 : w17.cell? ⟨w5.heap.size, 1, none⟩ = some (.slice A1g (ringP ps).2.1.length c1g) := bxg.cell 1
  have pg1 : ∀ o, (w17.alloc o).cell? ⟨w5.heap.size, 1, none⟩ = some (.slice A1g (ringP ps).2.1.length c1g) := fun o => keepA qg1
  have qg2 : w17.cell? ⟨w5.heap.size, 2, none⟩ = some (.slice A2g (ringP ps).2.2.length c2g) := bxg.cell 2
  have pg2 : ∀ o, (w17.alloc o).cell? ⟨w5.heap.size, 2, none⟩ = some (.slice A2g (ringP ps).2.2.length c2g) := fun o => keepA qg2
  have qh0 : w17.cell? ⟨w15.heap.size, 0, none⟩ = some (.slice A0h (ringP ps).1.length c0h) := bxh.cell 0
  have ph0 : ∀ o, (w17.alloc o).cell? ⟨w15.heap.size, 0, none⟩ = some (.slice A0h (ringP ps).1.length c0h) := fun o => keepA qh0
  have qh1 : w17.cell? ⟨w15.heap.size, 1, none⟩ = some (.slice A1h (ringP ps).2.1.length c1h) := bxh.cell 1
  have ph1 : ∀ o, (w17.alloc o).cell? ⟨w15.heap.size, 1, none⟩ = some (.slice A1h (ringP ps).2.1.length c1h) := fun o => keepA qh1
  have qh2 : w17.cell? ⟨w15.heap.size, 2, none⟩ = some (.slice A2h (ringP ps).2.2.length c2h) := bxh.cell 2
  have ph2 : ∀ o, (w17.alloc o).cell? ⟨w15.heap.size, 2, none⟩ = some (.slice A2h (ringP ps).2.2.length c2h) := fun o => keepA qh2
  go_wp2_with fail
  clear qy0 py0 qy1 py1 qy2 py2 qg0 pg0 qg1 pg1 qg2 pg2 qh0 ph0 qh1 ph1 qh2 ph2
  refine (heldParity _ _ _ (ringP ps) 1 _ _ (Nat.le_refl _) (og.hold fg).reads (by omega) (by omega)).mono ?_; rintro e w18 ⟨rfl, hbw18⟩
  have zw18 := hbw18.size
  have hww18 := below_then hbw18 hww17.size hww17
  replace fy := fy.step hbw18
  replace fg := fg.step hbw18
  replace fh := fh.step hbw18
  replace bxy := bxy.below hbw18 bxy.lt
  replace bxg := bxg.below hbw18 bxg.lt
  replace bxh := bxh.below hbw18 bxh.lt
  have qy0 : w18.cell? ⟨w2.heap.size, 0, none⟩ = some (.slice A0y (ringP ps).1.length c0y) := bxy.cell 0
  have py0 : ∀ o, (w18.alloc o).cell? ⟨w2.heap.size, 0, none⟩ = some (.slice A0y (ringP ps).1.length c0y) := fun o => keepA qy0
  have qy1 : w18.cell? ⟨w2.heap.size, 1, none⟩ = some (.slice A1y (ringP ps).2.1.length c1y) := bxy.cell 1
  have py1 : ∀ o, (w18.alloc o).cell? ⟨w2.heap.size, 1, none⟩ = some (.slice A1y (ringP ps).2.1.length c1y) := fun o => keepA qy1
  have qy2 : w18.cell? ⟨w2.heap.size, 2, none⟩ = some (.slice A2y (ringP ps).2.2.length c2y) := bxy.cell 2
  have py2 : ∀ o, (w18.alloc o).cell? ⟨w2.heap.size, 2, none⟩ = some (.slice A2y (ringP ps).2.2.length c2y) := fun o => keepA qy2
  have qg0 : w18.cell? ⟨w5.heap.size, 0, none⟩ = some (.slice A0g (ringP ps).1.length c0g) := bxg.cell 0
  have pg0 : ∀ o, (w18.alloc o).cell? ⟨w5.heap.size, 0, none⟩ = some (.slice A0g (ringP ps).1.length c0g) := fun o => keepA qg0
  have qg1 : w18.cell? ⟨w5.heap.size, 1, none⟩ = some (.slice A1g (ringP ps).2.1.length c1g) := bxg.cell 1
  have pg1 : ∀ o, (w18.alloc o).cell? ⟨w5.heap.size, 1, none⟩ = some (.slice A1g (ringP ps).2.1.length c1g) := fun o => keepA qg1
  have qg2 : w18.cell? ⟨w5.heap.size, 2, none⟩ = some (.slice A2g (ringP ps).2.2.length c2g) := bxg.cell 2
  have pg2 : ∀ o, (w18.alloc o).cell? ⟨w5.heap.size, 2, none⟩ = some (.slice A2g (ringP ps).2.2.length c2g) := fun o => keepA qg2
  have qh0 : w18.cell? ⟨w15.heap.size, 0, none⟩ = some (.slice A0h (ringP ps).1.length c0h) := bxh.cell 0
  have ph0 : ∀ o, (w18.alloc o).cell? ⟨w15.heap.size, 0, none⟩ = some (.slice A0h (ringP ps).1.length c0h) := fun o => keepA qh0
  have qh1 : w18.cell? ⟨w15.heap.size, 1, none⟩ = some (.slice A1h (ringP ps).2.1.length c1h) := bxh.cell 1
  have ph1 : ∀ o, (w18.alloc o).cell? ⟨w15.heap.size, 1, none⟩ = some (.slice A1h (ringP ps).2.1.length c1h) := fun o => keepA qh1
  have qh2 : w18.cell? ⟨w15.heap.size, 2, none⟩ = some (.slice A2h (ringP ps).2.2.length c2h) := bxh.cell 2
  have ph2 : ∀ o, (w18.alloc o).cell? ⟨w15.heap.size, 2, none⟩ = some (.slice A2h (ringP ps).2.2.length c2h) := fun o => keepA qh2
  go_wp2
  go_ret
  exact ⟨rfl, hww18⟩

theorem own : ownKnob Try.prog.godebug = none := by kernel_rfl
theorem laidOut : laidOutB Try.prog = true := by kernel_rfl
set_option maxRecDepth 100000 in
theorem lifted (os : Os) (started : os.Started) (H : Type) (enc : TypeId × Value → H) :
    ReturnsInHanded {} Try.checked os 7 .any (Rows.fnExactRingGameSpec.pre6 enc Try.prog Try.f7 Rows.fnExactRingGameRow.domain false) (Rows.fnExactRingGameSpec.post enc Try.prog Try.f7 false true false false) := by
  refine returnsInHanded_of_change (C := Try.checked) own started (by kernel_rfl) Try.func7
    (ChangeSpec.witness6 (enc := enc) (C := Try.checked) false ⟨#[], #[.slice none 0 0], []⟩ 8 (by kernel_rfl) (by kernel_rfl) (by kernel_rfl) (by kernel_rfl)) ?_
  intro W base args ds gs before hval0 hW hcnd _
  have hval : ∀ (j : Nat) t v, Try.f7.params[j]? = some t → args[j]? = some v → Value.okWide Try.prog W .any base t v := hval0
  have hW' := hW
  obtain ⟨p, q, hA0, hV, rfl, hfz, hnd⟩ := hW
  have hA : DataW.TrodAll enc Try.prog W 0 (fun _ => true) true Try.f7.params.toList args.toList ds p := hA0
  rw [Try.params7] at hA hval
  obtain ⟨v0, vs0, d0, ds0, p0, q0, hargs, rfl, rfl, h0, r0⟩ := trodAll_cons hA
  obtain ⟨rfl, rfl, rfl⟩ := trodAll_nil r0
  obtain rfl : args = #[v0] := by cases args; simp_all
  obtain ⟨rfl, rfl⟩ := trodVars_none hV
  have k0 := h0
  have lt0 : ∀ x ∈ p0, x.block < W.heap.size := by obtain ⟨m, hm⟩ := k0; exact DataW.trod_lt m _ _ _ hm
  obtain ⟨a0, len0, cap0, rfl⟩ := okWide_slice Try.underlying22 (hval 0 22 v0 rfl rfl)
  obtain ⟨z0, w0⟩ : ∃ zs, RI W a0 len0 cap0 zs := by
    obtain ⟨fuel, hf⟩ := h0
    rcases open_ints Try.underlying22 Try.underlying2 (by kernel_rfl) hf with ⟨hcs, _⟩ | ⟨x, l, c, zs, hcs, _, hl, hm, hz, _, hcell, hwz⟩
    · simp [Value.cells] at hcs
      obtain ⟨rfl, rfl, rfl⟩ := hcs
      exact ⟨[], RI.of_nil⟩
    · simp [Value.cells] at hcs
      obtain ⟨rfl, rfl, rfl⟩ := hcs
      exact ⟨_, RI.of_cells hl hm (by simpa using hz) hcell⟩
  clear hA0 hval0
  refine (walk a0 len0 cap0 z0 W w0).mono fun e W' ⟨he, bel⟩ => ?_
  subst he
  exact ⟨_, rfl, _, _, _, [], _, [], hW', trodAll_mk1 (shut_bool Try.underlying4 _), (trodAll_cons_mk (Below.trod laidOut (by kernel_rfl) (of_decide_eq_true (by kernel_rfl)) k0 bel lt0) trodAll_mk0), rfl, bel.frame _, fun h => by cases h⟩
theorem over : Rows.fnExactRingGameRow.holds Try.pinned (OpenSpec.ofChange Rows.fnExactRingGameSpec) :=
  OpenClaim.holds_of_wide 7 Try.f7 rfl rfl rfl rfl rfl rfl rfl ⟨rfl, rfl, rfl, rfl, rfl⟩ rfl rfl rfl rfl rfl (by kernel_rfl) Try.func7 (by kernel_rfl)
    (of_decide_eq_true (by kernel_rfl)) (by unfold Func.isWrapper; first | (rw [if_pos (by decide +kernel)]; kernel_rfl) | (rw [if_neg (by decide +kernel)]; exact ⟨rfl, rfl⟩))
    (fun os started H enc _ => lifted os started H enc)
/-- the statement -/
theorem proved : Rows.FnExactRingGameSaid := over
end Go.Proofs.Ytgnfnlgaocaoeaa.fnExactRingGame

