/- FnExactDiceGame: for every input the law returns true, and each argument reads as it read before. No condition. -/
import Derived.Test.YtefjhkcafcchlaaDiceI
import Derived.Test.YtefjhkcafcchlaaOpen
namespace Go.Proofs.Ytefjhkcafcchlaa.fnExactDiceGame
open Go.ChangeShapes Go.WideShapes Go.ChangeAt Go.RowKit

set_option maxRecDepth 100000 in
set_option maxHeartbeats 1600000 in
theorem walk (s n p ou : Int) (w : World)  :
    Calls Try.prog 9 #[.int .i64 s, .int .i64 n, .int .i64 p, .int .i64 ou] w fun e w' => e = .returned (.bool true) ∧ Below w.heap.size w w' := by
  have hne : (okDice n p ou != okDice n p ou) = false := by simp
  have hpt := dice_tot s n p ou
  have hww := Below.refl w.heap.size w
  go_enter Try.func9, Try.ntmps9
  go_wp2_with fail
  refine (specDice _ _ _ _ _ _ (Nat.le_refl _)).mono ?_; rintro e w1 ⟨s0y, s1y, s2y, rfl, oy, hbw1⟩
  obtain ⟨A0y, c0y, A1y, c1y, A2y, c2y, rfl, rfl, rfl⟩ := oy.form
  have zw1 := hbw1.size
  have hww1 := below_then hbw1 hww.size hww
  have fy := Far.refl w.heap.size w1
  go_wp2_with fail
  have hww2 : Below w.heap.size w (w1.alloc (.cells #[.slice A0y (diceP s n p ou).1.length c0y, .slice A1y (diceP s n p ou).2.1.length c1y, .slice A2y (diceP s n p ou).2.2.length c2y] 44)) := below_alloc (Nat.le_refl _) hww1
  have zw2 : w1.heap.size + 1 = (w1.alloc (.cells #[.slice A0y (diceP s n p ou).1.length c0y, .slice A1y (diceP s n p ou).2.1.length c1y, .slice A2y (diceP s n p ou).2.2.length c2y] 44)).heap.size := by simp
  replace fy := fy.step (below_alloc (o := (.cells #[.slice A0y (diceP s n p ou).1.length c0y, .slice A1y (diceP s n p ou).2.1.length c1y, .slice A2y (diceP s n p ou).2.2.length c2y] 44)) (Nat.le_refl _) (Below.refl _ _))
  have bxy := Box.new w1 44 #[.slice A0y (diceP s n p ou).1.length c0y, .slice A1y (diceP s n p ou).2.1.length c1y, .slice A2y (diceP s n p ou).2.2.length c2y]
  generalize (w1.alloc (.cells #[.slice A0y (diceP s n p ou).1.length c0y, .slice A1y (diceP s n p ou).2.1.length c1y, .slice A2y (diceP s n p ou).2.2.length c2y] 44)) = w2 at hww2 zw2 fy bxy ⊢
  refine (implDice _ _ _ _ _ _ (Nat.le_refl _)).mono ?_; rintro e w3 ⟨s0g, s1g, s2g, rfl, og, hbw3⟩
  obtain ⟨A0g, c0g, A1g, c1g, A2g, c2g, rfl, rfl, rfl⟩ := og.form
  have zw3 := hbw3.size
  have hww3 := below_then hbw3 hww2.size hww2
  replace fy := fy.step hbw3
  replace bxy := bxy.below hbw3 bxy.lt
  have fg := Far.refl w2.heap.size w3
  have qy0 : w3.cell? ⟨w1.heap.size, 0, none⟩ = some (.slice A0y (diceP s n p ou).1.length c0y) := bxy.cell 0
  have py0 : ∀ o, (w3.alloc o).cell? ⟨w1.heap.size, 0, none⟩ = some (.slice A0y (diceP s n p ou).1.length c0y) := fun o => keepA qy0
  have qy1 : w3.cell? ⟨w1.heap.size, 1, none⟩ = some (.slice A1y (diceP s n p ou).2.1.length c1y) := bxy.cell 1
  have py1 : ∀ o, (w3.alloc o).cell? ⟨w1.heap.size, 1, none⟩ = some (.slice A1y (diceP s n p ou).2.1.length c1y) := fun o => keepA qy1
  have qy2 : w3.cell? ⟨w1.heap.size, 2, none⟩ = some (.slice A2y (diceP s n p ou).2.2.length c2y) := bxy.cell 2
  have py2 : ∀ o, (w3.alloc o).cell? ⟨w1.heap.size, 2, none⟩ = some (.slice A2y (diceP s n p ou).2.2.length c2y) := fun o => keepA qy2
  go_wp2_with fail
  clear qy0 py0 qy1 py1 qy2 py2
  have hww4 : Below w.heap.size w (w3.alloc (.cells #[.slice A0g (diceP s n p ou).1.length c0g, .slice A1g (diceP s n p ou).2.1.length c1g, .slice A2g (diceP s n p ou).2.2.length c2g] 44)) := below_alloc (Nat.le_refl _) hww3
  have zw4 : w3.heap.size + 1 = (w3.alloc (.cells #[.slice A0g (diceP s n p ou).1.length c0g, .slice A1g (diceP s n p ou).2.1.length c1g, .slice A2g (diceP s n p ou).2.2.length c2g] 44)).heap.size := by simp
  replace fy := fy.step (below_alloc (o := (.cells #[.slice A0g (diceP s n p ou).1.length c0g, .slice A1g (diceP s n p ou).2.1.length c1g, .slice A2g (diceP s n p ou).2.2.length c2g] 44)) (Nat.le_refl _) (Below.refl _ _))
  replace fg := fg.step (below_alloc (o := (.cells #[.slice A0g (diceP s n p ou).1.length c0g, .slice A1g (diceP s n p ou).2.1.length c1g, .slice A2g (diceP s n p ou).2.2.length c2g] 44)) (Nat.le_refl _) (Below.refl _ _))
  replace bxy := bxy.alloc (.cells #[.slice A0g (diceP s n p ou).1.length c0g, .slice A1g (diceP s n p ou).2.1.length c1g, .slice A2g (diceP s n p ou).2.2.length c2g] 44)
  have bxg := Box.new w3 44 #[.slice A0g (diceP s n p ou).1.length c0g, .slice A1g (diceP s n p ou).2.1.length c1g, .slice A2g (diceP s n p ou).2.2.length c2g]
  generalize (w3.alloc (.cells #[.slice A0g (diceP s n p ou).1.length c0g, .slice A1g (diceP s n p ou).2.1.length c1g, .slice A2g (diceP s n p ou).2.2.length c2g] 44)) = w4 at hww4 zw4 fy fg bxy bxg ⊢
  refine (eqParity _ _ _ _ _ _ _ _ _ _ (Nat.le_refl _) (og.hold fg).reads (oy.hold fy).reads).mono ?_; rintro e w5 ⟨rfl, hbw5⟩
  have zw5 := hbw5.size
  have hww5 := below_then hbw5 hww4.size hww4
  replace fy := fy.step hbw5
  replace fg := fg.step hbw5
  replace bxy := bxy.below hbw5 bxy.lt
  replace bxg := bxg.below hbw5 bxg.lt
  rw [eqPar_self]
  have qy0 : w5.cell? ⟨w1.heap.size, 0, none⟩ = some (.slice A0y (diceP s n p ou).1.length c0y) := bxy.cell 0
  have py0 : ∀ o, (w5.alloc o).cell? ⟨w1.heap.size, 0, none⟩ = some (.slice A0y (diceP s n p ou).1.length c0y) := fun o => keepA qy0
  have qy1 : w5.cell? ⟨w1.heap.size, 1, none⟩ = some (.slice A1y (diceP s n p ou).2.1.length c1y) := bxy.cell 1
  have py1 : ∀ o, (w5.alloc o).cell? ⟨w1.heap.size, 1, none⟩ = some (.slice A1y (diceP s n p ou).2.1.length c1y) := fun o => keepA qy1
  have qy2 : w5.cell? ⟨w1.heap.size, 2, none⟩ = some (.slice A2y (diceP s n p ou).2.2.length c2y) := bxy.cell 2
  have py2 : ∀ o, (w5.alloc o).cell? ⟨w1.heap.size, 2, none⟩ = some (.slice A2y (diceP s n p ou).2.2.length c2y) := fun o => keepA qy2
  have qg0 : w5.cell? ⟨w3.heap.size, 0, none⟩ = some (.slice A0g (diceP s n p ou).1.length c0g) := bxg.cell 0
  have pg0 : ∀ o, (w5.alloc o).cell? ⟨w3.heap.size, 0, none⟩ = some (.slice A0g (diceP s n p ou).1.length c0g) := fun o => keepA qg0
  have qg1 : w5.cell? ⟨w3.heap.size, 1, none⟩ = some (.slice A1g (diceP s n p ou).2.1.length c1g) := bxg.cell 1
  have pg1 : ∀ o, (w5.alloc o).cell? ⟨w3.heap.size, 1, none⟩ = some (.slice A1g (diceP s n p ou).2.1.length c1g) := fun o => keepA qg1
  have qg2 : w5.cell? ⟨w3.heap.size, 2, none⟩ = some (.slice A2g (diceP s n p ou).2.2.length c2g) := bxg.cell 2
  have pg2 : ∀ o, (w5.alloc o).cell? ⟨w3.heap.size, 2, none⟩ = some (.slice A2g (diceP s n p ou).2.2.length c2g) := fun o => keepA qg2
  go_wp2_with fail
  clear qy0 py0 qy1 py1 qy2 py2 qg0 pg0 qg1 pg1 qg2 pg2
  refine (markParityU _ _ _ _ 1 _ _ _ (by omega) og fg (by omega) (by omega)).mono ?_; rintro e w6 ⟨rfl, ong, chw6⟩
  have zw6 := chw6.size
  have blw6 : Below w2.heap.size w5 w6 := chw6.below (by omega) (fun x h => h.1)
  have hww6 := below_then blw6 (by omega) hww5
  replace fy := fy.mark chw6 (by omega)
  clear og fg; have og := ong; have fg := Far.refl w2.heap.size w6
  replace bxy := bxy.chg chw6 (by omega)
  replace bxg := bxg.chg chw6 (by omega)
  have qy0 : w6.cell? ⟨w1.heap.size, 0, none⟩ = some (.slice A0y (diceP s n p ou).1.length c0y) := bxy.cell 0
  have py0 : ∀ o, (w6.alloc o).cell? ⟨w1.heap.size, 0, none⟩ = some (.slice A0y (diceP s n p ou).1.length c0y) := fun o => keepA qy0
  have qy1 : w6.cell? ⟨w1.heap.size, 1, none⟩ = some (.slice A1y (diceP s n p ou).2.1.length c1y) := bxy.cell 1
  have py1 : ∀ o, (w6.alloc o).cell? ⟨w1.heap.size, 1, none⟩ = some (.slice A1y (diceP s n p ou).2.1.length c1y) := fun o => keepA qy1
  have qy2 : w6.cell? ⟨w1.heap.size, 2, none⟩ = some (.slice A2y (diceP s n p ou).2.2.length c2y) := bxy.cell 2
  have py2 : ∀ o, (w6.alloc o).cell? ⟨w1.heap.size, 2, none⟩ = some (.slice A2y (diceP s n p ou).2.2.length c2y) := fun o => keepA qy2
  have qg0 : w6.cell? ⟨w3.heap.size, 0, none⟩ = some (.slice A0g (diceP s n p ou).1.length c0g) := bxg.cell 0
  have pg0 : ∀ o, (w6.alloc o).cell? ⟨w3.heap.size, 0, none⟩ = some (.slice A0g (diceP s n p ou).1.length c0g) := fun o => keepA qg0
  have qg1 : w6.cell? ⟨w3.heap.size, 1, none⟩ = some (.slice A1g (diceP s n p ou).2.1.length c1g) := bxg.cell 1
  have pg1 : ∀ o, (w6.alloc o).cell? ⟨w3.heap.size, 1, none⟩ = some (.slice A1g (diceP s n p ou).2.1.length c1g) := fun o => keepA qg1
  have qg2 : w6.cell? ⟨w3.heap.size, 2, none⟩ = some (.slice A2g (diceP s n p ou).2.2.length c2g) := bxg.cell 2
  have pg2 : ∀ o, (w6.alloc o).cell? ⟨w3.heap.size, 2, none⟩ = some (.slice A2g (diceP s n p ou).2.2.length c2g) := fun o => keepA qg2
  go_wp2_with fail
  clear qy0 py0 qy1 py1 qy2 py2 qg0 pg0 qg1 pg1 qg2 pg2
  refine (heldParity _ _ _ (diceP s n p ou) 1 _ _ (Nat.le_refl _) (og.hold fg).reads (by omega) (by omega)).mono ?_; rintro e w7 ⟨rfl, hbw7⟩
  have zw7 := hbw7.size
  have hww7 := below_then hbw7 hww6.size hww6
  replace fy := fy.step hbw7
  replace fg := fg.step hbw7
  replace bxy := bxy.below hbw7 bxy.lt
  replace bxg := bxg.below hbw7 bxg.lt
  have qy0 : w7.cell? ⟨w1.heap.size, 0, none⟩ = some (.slice A0y (diceP s n p ou).1.length c0y) := bxy.cell 0
  have py0 : ∀ o, (w7.alloc o).cell? ⟨w1.heap.size, 0, none⟩ = some (.slice A0y (diceP s n p ou).1.length c0y) := fun o => keepA qy0
  have qy1 : w7.cell? ⟨w1.heap.size, 1, none⟩ = some (.slice A1y (diceP s n p ou).2.1.length c1y) := bxy.cell 1
  have py1 : ∀ o, (w7.alloc o).cell? ⟨w1.heap.size, 1, none⟩ = some (.slice A1y (diceP s n p ou).2.1.length c1y) := fun o => keepA qy1
  have qy2 : w7.cell? ⟨w1.heap.size, 2, none⟩ = some (.slice A2y (diceP s n p ou).2.2.length c2y) := bxy.cell 2
  have py2 : ∀ o, (w7.alloc o).cell? ⟨w1.heap.size, 2, none⟩ = some (.slice A2y (diceP s n p ou).2.2.length c2y) := fun o => keepA qy2
  have qg0 : w7.cell? ⟨w3.heap.size, 0, none⟩ = some (.slice A0g (diceP s n p ou).1.length c0g) := bxg.cell 0
  have pg0 : ∀ o, (w7.alloc o).cell? ⟨w3.heap.size, 0, none⟩ = some (.slice A0g (diceP s n p ou).1.length c0g) := fun o => keepA qg0
  have qg1 : w7.cell? ⟨w3.heap.size, 1, none⟩ = some (.slice A1g (diceP s n p ou).2.1.length c1g) := bxg.cell 1
  have pg1 : ∀ o, (w7.alloc o).cell? ⟨w3.heap.size, 1, none⟩ = some (.slice A1g (diceP s n p ou).2.1.length c1g) := fun o => keepA qg1
  have qg2 : w7.cell? ⟨w3.heap.size, 2, none⟩ = some (.slice A2g (diceP s n p ou).2.2.length c2g) := bxg.cell 2
  have pg2 : ∀ o, (w7.alloc o).cell? ⟨w3.heap.size, 2, none⟩ = some (.slice A2g (diceP s n p ou).2.2.length c2g) := fun o => keepA qg2
  go_wp2_with fail
  clear qy0 py0 qy1 py1 qy2 py2 qg0 pg0 qg1 pg1 qg2 pg2
  refine (implDice _ _ _ _ _ _ (Nat.le_refl _)).mono ?_; rintro e w8 ⟨s0h, s1h, s2h, rfl, oh, hbw8⟩
  obtain ⟨A0h, c0h, A1h, c1h, A2h, c2h, rfl, rfl, rfl⟩ := oh.form
  have zw8 := hbw8.size
  have hww8 := below_then hbw8 hww7.size hww7
  replace fy := fy.step hbw8
  replace fg := fg.step hbw8
  replace bxy := bxy.below hbw8 bxy.lt
  replace bxg := bxg.below hbw8 bxg.lt
  have fh := Far.refl w7.heap.size w8
  have qy0 : w8.cell? ⟨w1.heap.size, 0, none⟩ = some (.slice A0y (diceP s n p ou).1.length c0y) := bxy.cell 0
  have py0 : ∀ o, (w8.alloc o).cell? ⟨w1.heap.size, 0, none⟩ = some (.slice A0y (diceP s n p ou).1.length c0y) := fun o => keepA qy0
  have qy1 : w8.cell? ⟨w1.heap.size, 1, none⟩ = some (.slice A1y (diceP s n p ou).2.1.length c1y) := bxy.cell 1
  have py1 : ∀ o, (w8.alloc o).cell? ⟨w1.heap.size, 1, none⟩ = some (.slice A1y (diceP s n p ou).2.1.length c1y) := fun o => keepA qy1
  have qy2 : w8.cell? ⟨w1.heap.size, 2, none⟩ = some (.slice A2y (diceP s n p ou).2.2.length c2y) := bxy.cell 2
  have py2 : ∀ o, (w8.alloc o).cell? ⟨w1.heap.size, 2, none⟩ = some (.slice A2y (diceP s n p ou).2.2.length c2y) := fun o => keepA qy2
  have qg0 : w8.cell? ⟨w3.heap.size, 0, none⟩ = some (.slice A0g (diceP s n p ou).1.length c0g) := bxg.cell 0
  have pg0 : ∀ o, (w8.alloc o).cell? ⟨w3.heap.size, 0, none⟩ = some (.slice A0g (diceP s n p ou).1.length c0g) := fun o => keepA qg0
  have qg1 : w8.cell? ⟨w3.heap.size, 1, none⟩ = some (.slice A1g (diceP s n p ou).2.1.length c1g) := bxg.cell 1
  have pg1 : ∀ o, (w8.alloc o).cell? ⟨w3.heap.size, 1, none⟩ = some (.slice A1g (diceP s n p ou).2.1.length c1g) := fun o => keepA qg1
  have qg2 : w8.cell? ⟨w3.heap.size, 2, none⟩ = some (.slice A2g (diceP s n p ou).2.2.length c2g) := bxg.cell 2
  have pg2 : ∀ o, (w8.alloc o).cell? ⟨w3.heap.size, 2, none⟩ = some (.slice A2g (diceP s n p ou).2.2.length c2g) := fun o => keepA qg2
  go_wp2_with fail
  clear qy0 py0 qy1 py1 qy2 py2 qg0 pg0 qg1 pg1 qg2 pg2
  have hww9 : Below w.heap.size w (w8.alloc (.cells #[.slice A0h (diceP s n p ou).1.length c0h, .slice A1h (diceP s n p ou).2.1.length c1h, .slice A2h (diceP s n p ou).2.2.length c2h] 44)) := below_alloc (Nat.le_refl _) hww8
  have zw9 : w8.heap.size + 1 = (w8.alloc (.cells #[.slice A0h (diceP s n p ou).1.length c0h, .slice A1h (diceP s n p ou).2.1.length c1h, .slice A2h (diceP s n p ou).2.2.length c2h] 44)).heap.size := by simp
  replace fy := fy.step (below_alloc (o := (.cells #[.slice A0h (diceP s n p ou).1.length c0h, .slice A1h (diceP s n p ou).2.1.length c1h, .slice A2h (diceP s n p ou).2.2.length c2h] 44)) (Nat.le_refl _) (Below.refl _ _))
  replace fg := fg.step (below_alloc (o := (.cells #[.slice A0h (diceP s n p ou).1.length c0h, .slice A1h (diceP s n p ou).2.1.length c1h, .slice A2h (diceP s n p ou).2.2.length c2h] 44)) (Nat.le_refl _) (Below.refl _ _))
  replace fh := fh.step (below_alloc (o := (.cells #[.slice A0h (diceP s n p ou).1.length c0h, .slice A1h (diceP s n p ou).2.1.length c1h, .slice A2h (diceP s n p ou).2.2.length c2h] 44)) (Nat.le_refl _) (Below.refl _ _))
  replace bxy := bxy.alloc (.cells #[.slice A0h (diceP s n p ou).1.length c0h, .slice A1h (diceP s n p ou).2.1.length c1h, .slice A2h (diceP s n p ou).2.2.length c2h] 44)
  replace bxg := bxg.alloc (.cells #[.slice A0h (diceP s n p ou).1.length c0h, .slice A1h (diceP s n p ou).2.1.length c1h, .slice A2h (diceP s n p ou).2.2.length c2h] 44)
  have bxh := Box.new w8 44 #[.slice A0h (diceP s n p ou).1.length c0h, .slice A1h (diceP s n p ou).2.1.length c1h, .slice A2h (diceP s n p ou).2.2.length c2h]
  generalize (w8.alloc (.cells #[.slice A0h (diceP s n p ou).1.length c0h, .slice A1h (diceP s n p ou).2.1.length c1h, .slice A2h (diceP s n p ou).2.2.length c2h] 44)) = w9 at hww9 zw9 fy fg fh bxy bxg bxh ⊢
  refine (eqParity _ _ _ _ _ _ _ _ _ _ (Nat.le_refl _) (oh.hold fh).reads (oy.hold fy).reads).mono ?_; rintro e w10 ⟨rfl, hbw10⟩
  have zw10 := hbw10.size
  have hww10 := below_then hbw10 hww9.size hww9
  replace fy := fy.step hbw10
  replace fg := fg.step hbw10
  replace fh := fh.step hbw10
  replace bxy := bxy.below hbw10 bxy.lt
  replace bxg := bxg.below hbw10 bxg.lt
  replace bxh := bxh.below hbw10 bxh.lt
  rw [eqPar_self]
  have qy0 : w10.cell? ⟨w1.heap.size, 0, none⟩ = some (.slice A0y (diceP s n p ou).1.length c0y) := bxy.cell 0
  have py0 : ∀ o, (w10.alloc o).cell? ⟨w1.heap.size, 0, none⟩ = some (.slice A0y (diceP s n p ou).1.length c0y) := fun o => keepA qy0
  have qy1 : w10.cell? ⟨w1.heap.size, 1, none⟩ = some (.slice A1y (diceP s n p ou).2.1.length c1y) := bxy.cell 1
  have py1 : ∀ o, (w10.alloc o).cell? ⟨w1.heap.size, 1, none⟩ = some (.slice A1y (diceP s n p ou).2.1.length c1y) := fun o => keepA qy1
  have qy2 : w10.cell? ⟨w1.heap.size, 2, none⟩ = some (.slice A2y (diceP s n p ou).2.2.length c2y) := bxy.cell 2
  have py2 : ∀ o, (w10.alloc o).cell? ⟨w1.heap.size, 2, none⟩ = some (.slice A2y (diceP s n p ou).2.2.length c2y) := fun o => keepA qy2
  have qg0 : w10.cell? ⟨w3.heap.size, 0, none⟩ = some (.slice A0g (diceP s n p ou).1.length c0g) := bxg.cell 0
  have pg0 : ∀ o, (w10.alloc o).cell? ⟨w3.heap.size, 0, none⟩ = some (.slice A0g (diceP s n p ou).1.length c0g) := fun o => keepA qg0
  have qg1 : w10.cell? ⟨w3.heap.size, 1, none⟩ = some (.slice A1g (diceP s n p ou).2.1.length c1g) := bxg.cell 1
  have pg1 : ∀ o, (w10.alloc o).cell? ⟨w3.heap.size, 1, none⟩ = some (.slice A1g (diceP s n p ou).2.1.length c1g) := fun o => keepA qg1
  have qg2 : w10.cell? ⟨w3.heap.size, 2, none⟩ = some (.slice A2g (diceP s n p ou).2.2.length c2g) := bxg.cell 2
  have pg2 : ∀ o, (w10.alloc o).cell? ⟨w3.heap.size, 2, none⟩ = some (.slice A2g (diceP s n p ou).2.2.length c2g) := fun o => keepA qg2
  have qh0 : w10.cell? ⟨w8.heap.size, 0, none⟩ = some (.slice A0h (diceP s n p ou).1.length c0h) := bxh.cell 0
  have ph0 : ∀ o, (w10.alloc o).cell? ⟨w8.heap.size, 0, none⟩ = some (.slice A0h (diceP s n p ou).1.length c0h) := fun o => keepA qh0
  have qh1 : w10.cell? ⟨w8.heap.size, 1, none⟩ = some (.slice A1h (diceP s n p ou).2.1.length c1h) := bxh.cell 1
  have ph1 : ∀ o, (w10.alloc o).cell? ⟨w8.heap.size, 1, none⟩ = some (.slice A1h (diceP s n p ou).2.1.length c1h) := fun o => keepA qh1
  have qh2 : w10.cell? ⟨w8.heap.size, 2, none⟩ = some (.slice A2h (diceP s n p ou).2.2.length c2h) := bxh.cell 2
  have ph2 : ∀ o, (w10.alloc o).cell? ⟨w8.heap.size, 2, none⟩ = some (.slice A2h (diceP s n p ou).2.2.length c2h) := fun o => keepA qh2
  go_wp2_with fail
  clear qy0 py0 qy1 py1 qy2 py2 qg0 pg0 qg1 pg1 qg2 pg2 qh0 ph0 qh1 ph1 qh2 ph2
  refine (heldParity _ _ _ (diceP s n p ou) 1 _ _ (Nat.le_refl _) (og.hold fg).reads (by omega) (by omega)).mono ?_; rintro e w11 ⟨rfl, hbw11⟩
  have zw11 := hbw11.size
  have hww11 := below_then hbw11 hww10.size hww10
  replace fy := fy.step hbw11
  replace fg := fg.step hbw11
  replace fh := fh.step hbw11
  replace bxy := bxy.below hbw11 bxy.lt
  replace bxg := bxg.below hbw11 bxg.lt
  replace bxh := bxh.below hbw11 bxh.lt
  have qy0 : w11.cell? ⟨w1.heap.size, 0, none⟩ = some (.slice A0y (diceP s n p ou).1.length c0y) := bxy.cell 0
  have py0 : ∀ o, (w11.alloc o).cell? ⟨w1.heap.size, 0, none⟩ = some (.slice A0y (diceP s n p ou).1.length c0y) := fun o => keepA qy0
  have qy1 : w11.cell? ⟨w1.heap.size, 1, none⟩ = some (.slice A1y (diceP s n p ou).2.1.length c1y) := bxy.cell 1
  have py1 : ∀ o, (w11.alloc o).cell? ⟨w1.heap.size, 1, none⟩ = some (.slice A1y (diceP s n p ou).2.1.length c1y) := fun o => keepA qy1
  have qy2 : w11.cell? ⟨w1.heap.size, 2, none⟩ = some (.slice A2y (diceP s n p ou).2.2.length c2y) := bxy.cell 2
  have py2 : ∀ o, (w11.alloc o).cell? ⟨w1.heap.size, 2, none⟩ = some (.slice A2y (diceP s n p ou).2.2.length c2y) := fun o => keepA qy2
  have qg0 : w11.cell? ⟨w3.heap.size, 0, none⟩ = some (.slice A0g (diceP s n p ou).1.length c0g) := bxg.cell 0
  have pg0 : ∀ o, (w11.alloc o).cell? ⟨w3.heap.size, 0, none⟩ = some (.slice A0g (diceP s n p ou).1.length c0g) := fun o => keepA qg0
  have qg1 : w11.cell? ⟨w3.heap.size, 1, none⟩ = some (.slice A1g (diceP s n p ou).2.1.length c1g) := bxg.cell 1
  have pg1 : ∀ o, (w11.alloc o).cell? ⟨w3.heap.size, 1, none⟩ = some (.slice A1g (diceP s n p ou).2.1.length c1g) := fun o => keepA qg1
  have qg2 : w11.cell? ⟨w3.heap.size, 2, none⟩ = some (.slice A2g (diceP s n p ou).2.2.length c2g) := bxg.cell 2
  have pg2 : ∀ o, (w11.alloc o).cell? ⟨w3.heap.size, 2, none⟩ = some (.slice A2g (diceP s n p ou).2.2.length c2g) := fun o => keepA qg2
  have qh0 : w11.cell? ⟨w8.heap.size, 0, none⟩ = some (.slice A0h (diceP s n p ou).1.length c0h) := bxh.cell 0
  have ph0 : ∀ o, (w11.alloc o).cell? ⟨w8.heap.size, 0, none⟩ = some (.slice A0h (diceP s n p ou).1.length c0h) := fun o => keepA qh0
  have qh1 : w11.cell? ⟨w8.heap.size, 1, none⟩ = some (.slice A1h (diceP s n p ou).2.1.length c1h) := bxh.cell 1
  have ph1 : ∀ o, (w11.alloc o).cell? ⟨w8.heap.size, 1, none⟩ = some (.slice A1h (diceP s n p ou).2.1.length c1h) := fun o => keepA qh1
  have qh2 : w11.cell? ⟨w8.heap.size, 2, none⟩ = some (.slice A2h (diceP s n p ou).2.2.length c2h) := bxh.cell 2
  have ph2 : ∀ o, (w11.alloc o).cell? ⟨w8.heap.size, 2, none⟩ = some (.slice A2h (diceP s n p ou).2.2.length c2h) := fun o => keepA qh2
  go_wp2
  go_ret
  exact ⟨rfl, hww11⟩

theorem own : ownKnob Try.prog.godebug = none := by kernel_rfl
theorem laidOut : laidOutB Try.prog = true := by kernel_rfl
set_option maxRecDepth 100000 in
theorem lifted (os : Os) (started : os.Started) (H : Type) (enc : TypeId × Value → H) :
    ReturnsInHanded {} Try.checked os 9 .any (Rows.fnExactDiceGameSpec.pre6 enc Try.prog Try.f9 Rows.fnExactDiceGameRow.domain false) (Rows.fnExactDiceGameSpec.post enc Try.prog Try.f9 false true false false) := by
  refine returnsInHanded_of_change (C := Try.checked) own started (by kernel_rfl) Try.func9
    (ChangeSpec.witness6 (enc := enc) (C := Try.checked) false ⟨#[], #[.int .i64 0, .int .i64 0, .int .i64 0, .int .i64 0], []⟩ 8 (by kernel_rfl) (by kernel_rfl) (by kernel_rfl) (by kernel_rfl)) ?_
  intro W base args ds gs before hval0 hW hcnd _
  have hval : ∀ (j : Nat) t v, Try.f9.params[j]? = some t → args[j]? = some v → Value.okWide Try.prog W .any base t v := hval0
  have hW' := hW
  obtain ⟨p, q, hA0, hV, rfl, hfz, hnd⟩ := hW
  have hA : DataW.TrodAll enc Try.prog W 0 (fun _ => true) true Try.f9.params.toList args.toList ds p := hA0
  rw [Try.params9] at hA hval
  obtain ⟨v0, vs0, d0, ds0, p0, q0, hargs, rfl, rfl, h0, r0⟩ := trodAll_cons hA
  obtain ⟨v1, vs1, d1, ds1, p1, q1, rfl, rfl, rfl, h1, r1⟩ := trodAll_cons r0
  obtain ⟨v2, vs2, d2, ds2, p2, q2, rfl, rfl, rfl, h2, r2⟩ := trodAll_cons r1
  obtain ⟨v3, vs3, d3, ds3, p3, q3, rfl, rfl, rfl, h3, r3⟩ := trodAll_cons r2
  obtain ⟨rfl, rfl, rfl⟩ := trodAll_nil r3
  obtain rfl : args = #[v0, v1, v2, v3] := by cases args; simp_all
  obtain ⟨rfl, rfl⟩ := trodVars_none hV
  obtain ⟨a0, rfl, rfl, rfl, w0⟩ := open_int Try.underlying2 (hval 0 2 v0 rfl rfl) h0
  obtain ⟨a1, rfl, rfl, rfl, w1⟩ := open_int Try.underlying2 (hval 1 2 v1 rfl rfl) h1
  obtain ⟨a2, rfl, rfl, rfl, w2⟩ := open_int Try.underlying2 (hval 2 2 v2 rfl rfl) h2
  obtain ⟨a3, rfl, rfl, rfl, w3⟩ := open_int Try.underlying2 (hval 3 2 v3 rfl rfl) h3
  clear hA0 hval0
  refine (walk a0 a1 a2 a3 W ).mono fun e W' ⟨he, bel⟩ => ?_
  subst he
  exact ⟨_, rfl, _, _, _, [], _, [], hW', trodAll_mk1 (shut_bool Try.underlying4 _), (trodAll_cons_mk (shut_int Try.underlying2 w0) (trodAll_cons_mk (shut_int Try.underlying2 w1) (trodAll_cons_mk (shut_int Try.underlying2 w2) (trodAll_cons_mk (shut_int Try.underlying2 w3) trodAll_mk0)))), rfl, bel.frame _, fun h => by cases h⟩
theorem over : Rows.fnExactDiceGameRow.holds Try.pinned (OpenSpec.ofChange Rows.fnExactDiceGameSpec) :=
  OpenClaim.holds_of_wide 9 Try.f9 rfl rfl rfl rfl rfl rfl rfl ⟨rfl, rfl, rfl, rfl, rfl⟩ rfl rfl rfl rfl rfl (by kernel_rfl) Try.func9 (by kernel_rfl)
    (of_decide_eq_true (by kernel_rfl)) (by unfold Func.isWrapper; first | (rw [if_pos (by decide +kernel)]; kernel_rfl) | (rw [if_neg (by decide +kernel)]; exact ⟨rfl, rfl⟩))
    (fun os started H enc _ => lifted os started H enc)
/-- the statement -/
theorem proved : Rows.FnExactDiceGameSaid := over
end Go.Proofs.Ytefjhkcafcchlaa.fnExactDiceGame

