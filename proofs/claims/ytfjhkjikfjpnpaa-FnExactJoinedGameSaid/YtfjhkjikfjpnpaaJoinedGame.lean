/- FnExactJoinedGame: for every input the law returns true, and each argument reads as it read before. No condition. -/
import Derived.Test.YtfjhkjikfjpnpaaJoinedI
import Derived.Test.YtfjhkjikfjpnpaaParL
import Derived.Test.YtfjhkjikfjpnpaaOpenG
import Derived.Test.YtfjhkjikfjpnpaaOpen
import Derived.Deep.RegionHeld3
import Derived.Deep.DeepCutAuto
import Derived.Test.YtfjhkjikfjpnpaaCut3
namespace Go.Proofs.Ytfjhkjikfjpnpaa.fnExactJoinedGame
open Go.ChangeShapes Go.WideShapes Go.ChangeAt Go.RowKit

set_option maxRecDepth 100000 in
set_option maxHeartbeats 1600000 in
theorem walk (A0a A0b A0c : Option Addr) (n0a c0a n0b c0b n0c c0c : Nat) (z0 : ParD) (A1a A1b A1c : Option Addr) (n1a c1a n1b c1b n1c c1c : Nat) (z1 : ParD) (w : World) (ha0 : RPv w (.slice A0a n0a c0a) (.slice A0b n0b c0b) (.slice A0c n0c c0c) z0) (ha1 : RPv w (.slice A1a n1a c1a) (.slice A1b n1b c1b) (.slice A1c n1c c1c) z1) :
    Calls Try.prog 4 #[.agg #[.slice A0a n0a c0a, .slice A0b n0b c0b, .slice A0c n0c c0c], .agg #[.slice A1a n1a c1a, .slice A1b n1b c1b, .slice A1c n1c c1c]] w fun e w' => e = .returned (.bool true) ∧ Below w.heap.size w w' := by
  by_cases hy0 : ¬ (((szPar z0) : Nat) : Int) ≤ 1048576
  · have E0 := Lib.hid (szF_no hy0)
    have hww := Below.refl w.heap.size w
    go_enter Try.func4, Try.ntmps4
    go_wp2_with fail
    have hww1 : Below w.heap.size w (w.alloc (.cells #[.slice A0a n0a c0a, .slice A0b n0b c0b, .slice A0c n0c c0c] 40)) := below_alloc (Nat.le_refl _) hww
    have zw1 : w.heap.size + 1 = (w.alloc (.cells #[.slice A0a n0a c0a, .slice A0b n0b c0b, .slice A0c n0c c0c] 40)).heap.size := by simp
    have bxP0 := Box.new w 40 #[.slice A0a n0a c0a, .slice A0b n0b c0b, .slice A0c n0c c0c]
    generalize (w.alloc (.cells #[.slice A0a n0a c0a, .slice A0b n0b c0b, .slice A0c n0c c0c] 40)) = w1 at hww1 zw1 bxP0 ⊢
    have hww2 : Below w.heap.size w (w1.alloc (.cells #[.slice A1a n1a c1a, .slice A1b n1b c1b, .slice A1c n1c c1c] 40)) := below_alloc (Nat.le_refl _) hww1
    have zw2 : w1.heap.size + 1 = (w1.alloc (.cells #[.slice A1a n1a c1a, .slice A1b n1b c1b, .slice A1c n1c c1c] 40)).heap.size := by simp
    replace bxP0 := bxP0.alloc (.cells #[.slice A1a n1a c1a, .slice A1b n1b c1b, .slice A1c n1c c1c] 40)
    have bxP1 := Box.new w1 40 #[.slice A1a n1a c1a, .slice A1b n1b c1b, .slice A1c n1c c1c]
    generalize (w1.alloc (.cells #[.slice A1a n1a c1a, .slice A1b n1b c1b, .slice A1c n1c c1c] 40)) = w2 at hww2 zw2 bxP0 bxP1 ⊢
    refine (szParity _ _ _ _ _ _ _ (Nat.le_refl _) (ha0.keep (keeps_below hww2)) (by omega) (by omega)).mono ?_; rintro e w3 ⟨rfl, hbw3⟩
    have zw3 := hbw3.size
    have hww3 := below_then hbw3 hww2.size hww2
    replace bxP0 := bxP0.below hbw3 bxP0.lt
    replace bxP1 := bxP1.below hbw3 bxP1.lt
    rw [E0.out]
    go_wp2
    go_ret
    exact ⟨rfl, hww3⟩
  have hz0 : (((szPar z0) : Nat) : Int) ≤ 1048576 := by omega
  have hm0 : (szPar z0) ≤ 1048576 := by omega
  have E0 := Lib.hid (szF_yes hz0)
  clear hy0
  by_cases hy1 : ¬ (((szPar z1) : Nat) : Int) ≤ 1048576 - (((szPar z0) : Nat) : Int)
  · have E1 := Lib.hid (szF_no hy1)
    have hww := Below.refl w.heap.size w
    go_enter Try.func4, Try.ntmps4
    go_wp2_with fail
    have hww1 : Below w.heap.size w (w.alloc (.cells #[.slice A0a n0a c0a, .slice A0b n0b c0b, .slice A0c n0c c0c] 40)) := below_alloc (Nat.le_refl _) hww
    have zw1 : w.heap.size + 1 = (w.alloc (.cells #[.slice A0a n0a c0a, .slice A0b n0b c0b, .slice A0c n0c c0c] 40)).heap.size := by simp
    have bxP0 := Box.new w 40 #[.slice A0a n0a c0a, .slice A0b n0b c0b, .slice A0c n0c c0c]
    generalize (w.alloc (.cells #[.slice A0a n0a c0a, .slice A0b n0b c0b, .slice A0c n0c c0c] 40)) = w1 at hww1 zw1 bxP0 ⊢
    have hww2 : Below w.heap.size w (w1.alloc (.cells #[.slice A1a n1a c1a, .slice A1b n1b c1b, .slice A1c n1c c1c] 40)) := below_alloc (Nat.le_refl _) hww1
    have zw2 : w1.heap.size + 1 = (w1.alloc (.cells #[.slice A1a n1a c1a, .slice A1b n1b c1b, .slice A1c n1c c1c] 40)).heap.size := by simp
    replace bxP0 := bxP0.alloc (.cells #[.slice A1a n1a c1a, .slice A1b n1b c1b, .slice A1c n1c c1c] 40)
    have bxP1 := Box.new w1 40 #[.slice A1a n1a c1a, .slice A1b n1b c1b, .slice A1c n1c c1c]
    generalize (w1.alloc (.cells #[.slice A1a n1a c1a, .slice A1b n1b c1b, .slice A1c n1c c1c] 40)) = w2 at hww2 zw2 bxP0 bxP1 ⊢
    refine (szParity _ _ _ _ _ _ _ (Nat.le_refl _) (ha0.keep (keeps_below hww2)) (by omega) (by omega)).mono ?_; rintro e w3 ⟨rfl, hbw3⟩
    have zw3 := hbw3.size
    have hww3 := below_then hbw3 hww2.size hww2
    replace bxP0 := bxP0.below hbw3 bxP0.lt
    replace bxP1 := bxP1.below hbw3 bxP1.lt
    rw [E0.out]
    have qP00 : w3.cell? ⟨w.heap.size, 0, none⟩ = some (.slice A0a n0a c0a) := bxP0.cell 0
    have pP00 : ∀ o, (w3.alloc o).cell? ⟨w.heap.size, 0, none⟩ = some (.slice A0a n0a c0a) := fun o => keepA qP00
    have rP00 : w.heap.size < w3.heap.size := bxP0.lt
    have qP01 : w3.cell? ⟨w.heap.size, 1, none⟩ = some (.slice A0b n0b c0b) := bxP0.cell 1
    have pP01 : ∀ o, (w3.alloc o).cell? ⟨w.heap.size, 1, none⟩ = some (.slice A0b n0b c0b) := fun o => keepA qP01
    have rP01 : w.heap.size < w3.heap.size := bxP0.lt
    have qP02 : w3.cell? ⟨w.heap.size, 2, none⟩ = some (.slice A0c n0c c0c) := bxP0.cell 2
    have pP02 : ∀ o, (w3.alloc o).cell? ⟨w.heap.size, 2, none⟩ = some (.slice A0c n0c c0c) := fun o => keepA qP02
    have rP02 : w.heap.size < w3.heap.size := bxP0.lt
    have qP10 : w3.cell? ⟨w1.heap.size, 0, none⟩ = some (.slice A1a n1a c1a) := bxP1.cell 0
    have pP10 : ∀ o, (w3.alloc o).cell? ⟨w1.heap.size, 0, none⟩ = some (.slice A1a n1a c1a) := fun o => keepA qP10
    have rP10 : w1.heap.size < w3.heap.size := bxP1.lt
    have qP11 : w3.cell? ⟨w1.heap.size, 1, none⟩ = some (.slice A1b n1b c1b) := bxP1.cell 1
    have pP11 : ∀ o, (w3.alloc o).cell? ⟨w1.heap.size, 1, none⟩ = some (.slice A1b n1b c1b) := fun o => keepA qP11
    have rP11 : w1.heap.size < w3.heap.size := bxP1.lt
    have qP12 : w3.cell? ⟨w1.heap.size, 2, none⟩ = some (.slice A1c n1c c1c) := bxP1.cell 2
    have pP12 : ∀ o, (w3.alloc o).cell? ⟨w1.heap.size, 2, none⟩ = some (.slice A1c n1c c1c) := fun o => keepA qP12
    have rP12 : w1.heap.size < w3.heap.size := bxP1.lt
    go_wp2_with fail
    clear qP00 pP00 rP00 qP01 pP01 rP01 qP02 pP02 rP02 qP10 pP10 rP10 qP11 pP11 rP11 qP12 pP12 rP12
    refine (szParity _ _ _ _ _ _ _ (Nat.le_refl _) (ha1.keep (keeps_below hww3)) (by omega) (by omega)).mono ?_; rintro e w4 ⟨rfl, hbw4⟩
    have zw4 := hbw4.size
    have hww4 := below_then hbw4 hww3.size hww3
    replace bxP0 := bxP0.below hbw4 bxP0.lt
    replace bxP1 := bxP1.below hbw4 bxP1.lt
    rw [E1.out]
    go_wp2
    go_ret
    exact ⟨rfl, hww4⟩
  have hz1 : (((szPar z1) : Nat) : Int) ≤ 1048576 - (((szPar z0) : Nat) : Int) := by omega
  have hm1 : (szPar z1) ≤ 1048576 := by omega
  have E1 := Lib.hid (szF_yes hz1)
  clear hy1
  have hR := join_tot z0 z1
  have hT := ptot_sz z0
  have hT2 := ptot_sz z1
  have hne1 : ((okJoin z0 z1) != (okJoin z0 z1)) = false := by simp
  have hww := Below.refl w.heap.size w
  go_enter Try.func4, Try.ntmps4
  go_wp2_with fail
  have hww1 : Below w.heap.size w (w.alloc (.cells #[.slice A0a n0a c0a, .slice A0b n0b c0b, .slice A0c n0c c0c] 40)) := below_alloc (Nat.le_refl _) hww
  have zw1 : w.heap.size + 1 = (w.alloc (.cells #[.slice A0a n0a c0a, .slice A0b n0b c0b, .slice A0c n0c c0c] 40)).heap.size := by simp
  have bxP0 := Box.new w 40 #[.slice A0a n0a c0a, .slice A0b n0b c0b, .slice A0c n0c c0c]
  generalize (w.alloc (.cells #[.slice A0a n0a c0a, .slice A0b n0b c0b, .slice A0c n0c c0c] 40)) = w1 at hww1 zw1 bxP0 ⊢
  have hww2 : Below w.heap.size w (w1.alloc (.cells #[.slice A1a n1a c1a, .slice A1b n1b c1b, .slice A1c n1c c1c] 40)) := below_alloc (Nat.le_refl _) hww1
  have zw2 : w1.heap.size + 1 = (w1.alloc (.cells #[.slice A1a n1a c1a, .slice A1b n1b c1b, .slice A1c n1c c1c] 40)).heap.size := by simp
  replace bxP0 := bxP0.alloc (.cells #[.slice A1a n1a c1a, .slice A1b n1b c1b, .slice A1c n1c c1c] 40)
  have bxP1 := Box.new w1 40 #[.slice A1a n1a c1a, .slice A1b n1b c1b, .slice A1c n1c c1c]
  generalize (w1.alloc (.cells #[.slice A1a n1a c1a, .slice A1b n1b c1b, .slice A1c n1c c1c] 40)) = w2 at hww2 zw2 bxP0 bxP1 ⊢
  refine (szParity _ _ _ _ _ _ _ (Nat.le_refl _) (ha0.keep (keeps_below hww2)) (by omega) (by omega)).mono ?_; rintro e w3 ⟨rfl, hbw3⟩
  have zw3 := hbw3.size
  have hww3 := below_then hbw3 hww2.size hww2
  replace bxP0 := bxP0.below hbw3 bxP0.lt
  replace bxP1 := bxP1.below hbw3 bxP1.lt
  rw [E0.out]
  have qP00 : w3.cell? ⟨w.heap.size, 0, none⟩ = some (.slice A0a n0a c0a) := bxP0.cell 0
  have pP00 : ∀ o, (w3.alloc o).cell? ⟨w.heap.size, 0, none⟩ = some (.slice A0a n0a c0a) := fun o => keepA qP00
  have rP00 : w.heap.size < w3.heap.size := bxP0.lt
  have qP01 : w3.cell? ⟨w.heap.size, 1, none⟩ = some (.slice A0b n0b c0b) := bxP0.cell 1
  have pP01 : ∀ o, (w3.alloc o).cell? ⟨w.heap.size, 1, none⟩ = some (.slice A0b n0b c0b) := fun o => keepA qP01
  have rP01 : w.heap.size < w3.heap.size := bxP0.lt
  have qP02 : w3.cell? ⟨w.heap.size, 2, none⟩ = some (.slice A0c n0c c0c) := bxP0.cell 2
  have pP02 : ∀ o, (w3.alloc o).cell? ⟨w.heap.size, 2, none⟩ = some (.slice A0c n0c c0c) := fun o => keepA qP02
  have rP02 : w.heap.size < w3.heap.size := bxP0.lt
  have qP10 : w3.cell? ⟨w1.heap.size, 0, none⟩ = some (.slice A1a n1a c1a) := bxP1.cell 0
  have pP10 : ∀ o, (w3.alloc o).cell? ⟨w1.heap.size, 0, none⟩ = some (.slice A1a n1a c1a) := fun o => keepA qP10
  have rP10 : w1.heap.size < w3.heap.size := bxP1.lt
  have qP11 : w3.cell? ⟨w1.heap.size, 1, none⟩ = some (.slice A1b n1b c1b) := bxP1.cell 1
  have pP11 : ∀ o, (w3.alloc o).cell? ⟨w1.heap.size, 1, none⟩ = some (.slice A1b n1b c1b) := fun o => keepA qP11
  have rP11 : w1.heap.size < w3.heap.size := bxP1.lt
  have qP12 : w3.cell? ⟨w1.heap.size, 2, none⟩ = some (.slice A1c n1c c1c) := bxP1.cell 2
  have pP12 : ∀ o, (w3.alloc o).cell? ⟨w1.heap.size, 2, none⟩ = some (.slice A1c n1c c1c) := fun o => keepA qP12
  have rP12 : w1.heap.size < w3.heap.size := bxP1.lt
  go_wp2_with fail
  clear qP00 pP00 rP00 qP01 pP01 rP01 qP02 pP02 rP02 qP10 pP10 rP10 qP11 pP11 rP11 qP12 pP12 rP12
  refine (szParity _ _ _ _ _ _ _ (Nat.le_refl _) (ha1.keep (keeps_below hww3)) (by omega) (by omega)).mono ?_; rintro e w4 ⟨rfl, hbw4⟩
  have zw4 := hbw4.size
  have hww4 := below_then hbw4 hww3.size hww3
  replace bxP0 := bxP0.below hbw4 bxP0.lt
  replace bxP1 := bxP1.below hbw4 bxP1.lt
  rw [E1.out]
  have qP00 : w4.cell? ⟨w.heap.size, 0, none⟩ = some (.slice A0a n0a c0a) := bxP0.cell 0
  have pP00 : ∀ o, (w4.alloc o).cell? ⟨w.heap.size, 0, none⟩ = some (.slice A0a n0a c0a) := fun o => keepA qP00
  have rP00 : w.heap.size < w4.heap.size := bxP0.lt
  have qP01 : w4.cell? ⟨w.heap.size, 1, none⟩ = some (.slice A0b n0b c0b) := bxP0.cell 1
  have pP01 : ∀ o, (w4.alloc o).cell? ⟨w.heap.size, 1, none⟩ = some (.slice A0b n0b c0b) := fun o => keepA qP01
  have rP01 : w.heap.size < w4.heap.size := bxP0.lt
  have qP02 : w4.cell? ⟨w.heap.size, 2, none⟩ = some (.slice A0c n0c c0c) := bxP0.cell 2
  have pP02 : ∀ o, (w4.alloc o).cell? ⟨w.heap.size, 2, none⟩ = some (.slice A0c n0c c0c) := fun o => keepA qP02
  have rP02 : w.heap.size < w4.heap.size := bxP0.lt
  have qP10 : w4.cell? ⟨w1.heap.size, 0, none⟩ = some (.slice A1a n1a c1a) := bxP1.cell 0
  have pP10 : ∀ o, (w4.alloc o).cell? ⟨w1.heap.size, 0, none⟩ = some (.slice A1a n1a c1a) := fun o => keepA qP10
  have rP10 : w1.heap.size < w4.heap.size := bxP1.lt
  have qP11 : w4.cell? ⟨w1.heap.size, 1, none⟩ = some (.slice A1b n1b c1b) := bxP1.cell 1
  have pP11 : ∀ o, (w4.alloc o).cell? ⟨w1.heap.size, 1, none⟩ = some (.slice A1b n1b c1b) := fun o => keepA qP11
  have rP11 : w1.heap.size < w4.heap.size := bxP1.lt
  have qP12 : w4.cell? ⟨w1.heap.size, 2, none⟩ = some (.slice A1c n1c c1c) := bxP1.cell 2
  have pP12 : ∀ o, (w4.alloc o).cell? ⟨w1.heap.size, 2, none⟩ = some (.slice A1c n1c c1c) := fun o => keepA qP12
  have rP12 : w1.heap.size < w4.heap.size := bxP1.lt
  go_wp2_with fail
  clear qP00 pP00 rP00 qP01 pP01 rP01 qP02 pP02 rP02 qP10 pP10 rP10 qP11 pP11 rP11 qP12 pP12 rP12
  go_upto_region 8 with (fail)
  go_cut [6, 7] (fun u0 u1 wx => Hid (∃ (br : Nat) (Ara Arb Arc : Option Addr) (cra crb crc : Nat) (lr : Nat) (mr : World), u0 = .pointer (some ⟨br, 0, none⟩) ∧ u1 = .bool (okJoin z0 z1) ∧ Box wx br 44 #[.slice Ara (joinG z0 z1).1.length cra, .slice Arb (joinG z0 z1).2.1.length crb, .slice Arc (joinG z0 z1).2.2.length crc] ∧ OPar mr lr (.slice Ara (joinG z0 z1).1.length cra) (.slice Arb (joinG z0 z1).2.1.length crb) (.slice Arc (joinG z0 z1).2.2.length crc) (joinG z0 z1) ∧ Far lr mr wx ∧ Below w.heap.size w wx ∧ Box wx (w.heap.size) 40 #[.slice A0a n0a c0a, .slice A0b n0b c0b, .slice A0c n0c c0c] ∧ Box wx (w1.heap.size) 40 #[.slice A1a n1a c1a, .slice A1b n1b c1b, .slice A1c n1c c1c]))
  case first =>
    have hwC := Below.drew hww4
    replace bxP0 : Box w4.drew _ _ _ := bxP0
    replace bxP1 : Box w4.drew _ _ _ := bxP1
    have sP00 : w4.drew.cell? ⟨w.heap.size, 0, none⟩ = some (.slice A0a n0a c0a) := bxP0.cell 0
    have sP01 : w4.drew.cell? ⟨w.heap.size, 1, none⟩ = some (.slice A0b n0b c0b) := bxP0.cell 1
    have sP02 : w4.drew.cell? ⟨w.heap.size, 2, none⟩ = some (.slice A0c n0c c0c) := bxP0.cell 2
    have sP10 : w4.drew.cell? ⟨w1.heap.size, 0, none⟩ = some (.slice A1a n1a c1a) := bxP1.cell 0
    have sP11 : w4.drew.cell? ⟨w1.heap.size, 1, none⟩ = some (.slice A1b n1b c1b) := bxP1.cell 1
    have sP12 : w4.drew.cell? ⟨w1.heap.size, 2, none⟩ = some (.slice A1c n1c c1c) := bxP1.cell 2
    refine wp_region_held_drew (S := (fun w' => w'.cell? ⟨w.heap.size, 0, none⟩ = some (.slice A0a n0a c0a) ∧ w'.cell? ⟨w.heap.size, 1, none⟩ = some (.slice A0b n0b c0b) ∧ w'.cell? ⟨w.heap.size, 2, none⟩ = some (.slice A0c n0c c0c) ∧ w'.cell? ⟨w1.heap.size, 0, none⟩ = some (.slice A1a n1a c1a) ∧ w'.cell? ⟨w1.heap.size, 1, none⟩ = some (.slice A1b n1b c1b) ∧ w'.cell? ⟨w1.heap.size, 2, none⟩ = some (.slice A1c n1c c1c))) (by kernel_rfl) (⟨sP00, sP01, sP02, sP10, sP11, sP12⟩) (fun hHeld => ?_)
    generalize w4.drew = wD at *
    refine takeH0 (v := ?_) (by kernel_rfl) (by kernel_rfl) (by kernel_rfl) (fun _ _ _ h => h) hHeld (by rfl) ?_ ?_
    rotate_left; · (intro w hSw; (try dsimp only at hSw); go_simp; try with_reducible rfl)
    try simp only [Act.put, List.setIfInBounds_toArray, List.set_cons_zero, List.set_cons_succ]
    refine takeH2 (v := ?_) (by kernel_rfl) (by kernel_rfl) (by kernel_rfl) (fun _ _ _ h => h) hHeld (by rfl) ?_ ?_
    rotate_left; · (intro w hSw; (try dsimp only at hSw); go_simp; try with_reducible rfl)
    try simp only [Act.put, List.setIfInBounds_toArray, List.set_cons_zero, List.set_cons_succ]
    refine twoH_1_8 (by kernel_rfl) (fun K hK => ?_) (fun K hK => ?_)
    · go_simp
      go_at_call 27
      refine (toParity _ _ _ _ _ _ (Nat.le_refl _) (ha0.keep (keeps_below hwC)) hm0).mono ?_; rintro e w5 ⟨vy0a, vy0b, vy0c, rfl, oy0, hbw5⟩
      obtain ⟨Ay0a, cy0a, Ay0b, cy0b, Ay0c, cy0c, rfl, rfl, rfl⟩ := oy0.form
      replace hwC := below_then hbw5 hwC.size hwC
      replace bxP0 := bxP0.on hbw5
      replace bxP1 := bxP1.on hbw5
      have fy0 := Far.refl wD.heap.size w5
      have sP00 : w5.cell? ⟨w.heap.size, 0, none⟩ = some (.slice A0a n0a c0a) := bxP0.cell 0
      have sP01 : w5.cell? ⟨w.heap.size, 1, none⟩ = some (.slice A0b n0b c0b) := bxP0.cell 1
      have sP02 : w5.cell? ⟨w.heap.size, 2, none⟩ = some (.slice A0c n0c c0c) := bxP0.cell 2
      have sP10 : w5.cell? ⟨w1.heap.size, 0, none⟩ = some (.slice A1a n1a c1a) := bxP1.cell 0
      have sP11 : w5.cell? ⟨w1.heap.size, 1, none⟩ = some (.slice A1b n1b c1b) := bxP1.cell 1
      have sP12 : w5.cell? ⟨w1.heap.size, 2, none⟩ = some (.slice A1c n1c c1c) := bxP1.cell 2
      go_wp2_with fail
      refine hK.out _ _ (⟨sP00, sP01, sP02, sP10, sP11, sP12⟩) (fun hHeld => ?_)
      clear hK K
      try simp only [Act.put, List.setIfInBounds_toArray, List.set_cons_zero, List.set_cons_succ]
      refine twoH_3_8 (by kernel_rfl) (fun K hK => ?_) (fun K hK => ?_)
      · go_simp
        go_at_call 27
        refine (toParity _ _ _ _ _ _ (Nat.le_refl _) (ha1.keep (keeps_below hwC)) hm1).mono ?_; rintro e w6 ⟨vy1a, vy1b, vy1c, rfl, oy1, hbw6⟩
        obtain ⟨Ay1a, cy1a, Ay1b, cy1b, Ay1c, cy1c, rfl, rfl, rfl⟩ := oy1.form
        replace hwC := below_then hbw6 hwC.size hwC
        replace bxP0 := bxP0.on hbw6
        replace bxP1 := bxP1.on hbw6
        replace fy0 := fy0.step hbw6
        have fy1 := Far.refl w5.heap.size w6
        have sP00 : w6.cell? ⟨w.heap.size, 0, none⟩ = some (.slice A0a n0a c0a) := bxP0.cell 0
        have sP01 : w6.cell? ⟨w.heap.size, 1, none⟩ = some (.slice A0b n0b c0b) := bxP0.cell 1
        have sP02 : w6.cell? ⟨w.heap.size, 2, none⟩ = some (.slice A0c n0c c0c) := bxP0.cell 2
        have sP10 : w6.cell? ⟨w1.heap.size, 0, none⟩ = some (.slice A1a n1a c1a) := bxP1.cell 0
        have sP11 : w6.cell? ⟨w1.heap.size, 1, none⟩ = some (.slice A1b n1b c1b) := bxP1.cell 1
        have sP12 : w6.cell? ⟨w1.heap.size, 2, none⟩ = some (.slice A1c n1c c1c) := bxP1.cell 2
        go_wp2_with fail
        refine hK.out _ _ (⟨sP00, sP01, sP02, sP10, sP11, sP12⟩) (fun hHeld => ?_)
        clear hK K
        try simp only [Act.put, List.setIfInBounds_toArray, List.set_cons_zero, List.set_cons_succ]
        refine twoH_4_8 (by kernel_rfl) (fun K hK => ?_) (fun K hK => ?_)
        · go_simp
          go_at_call 26
          refine (specJoinedGame _ _ _ _ _ _ _ _ _ _ (Nat.le_refl _) (oy0.hold fy0).reads (oy1.hold fy1).reads).mono ?_; rintro e w7 ⟨vra, vrb, vrc, rfl, or, hbw7⟩
          obtain ⟨Ara, cra, Arb, crb, Arc, crc, rfl, rfl, rfl⟩ := or.form
          replace hwC := below_then hbw7 hwC.size hwC
          replace bxP0 := bxP0.on hbw7
          replace bxP1 := bxP1.on hbw7
          replace fy0 := fy0.step hbw7
          replace fy1 := fy1.step hbw7
          have fr := Far.refl w6.heap.size w7
          have sP00 : w7.cell? ⟨w.heap.size, 0, none⟩ = some (.slice A0a n0a c0a) := bxP0.cell 0
          have sP01 : w7.cell? ⟨w.heap.size, 1, none⟩ = some (.slice A0b n0b c0b) := bxP0.cell 1
          have sP02 : w7.cell? ⟨w.heap.size, 2, none⟩ = some (.slice A0c n0c c0c) := bxP0.cell 2
          have sP10 : w7.cell? ⟨w1.heap.size, 0, none⟩ = some (.slice A1a n1a c1a) := bxP1.cell 0
          have sP11 : w7.cell? ⟨w1.heap.size, 1, none⟩ = some (.slice A1b n1b c1b) := bxP1.cell 1
          have sP12 : w7.cell? ⟨w1.heap.size, 2, none⟩ = some (.slice A1c n1c c1c) := bxP1.cell 2
          go_wp2_with fail
          refine hK.out _ _ (⟨sP00, sP01, sP02, sP10, sP11, sP12⟩) (fun hHeld => ?_)
          clear hK K
          try simp only [Act.put, List.setIfInBounds_toArray, List.set_cons_zero, List.set_cons_succ]
          refine takeH5 (v := ?_) (by kernel_rfl) (by kernel_rfl) (by kernel_rfl) (fun _ _ _ h => h) hHeld (by rfl) ?_ ?_
          rotate_left; · (intro w hSw; (try dsimp only at hSw); go_simp; try with_reducible rfl)
          try simp only [Act.put, List.setIfInBounds_toArray, List.set_cons_zero, List.set_cons_succ]
          refine takeH6 (v := ?_) (by kernel_rfl) (by kernel_rfl) (by kernel_rfl) (fun _ _ _ h => h) hHeld (by rfl) ?_ ?_
          rotate_left; · (intro w hSw; (try dsimp only at hSw); go_simp; try with_reducible rfl)
          try simp only [Act.put, List.setIfInBounds_toArray, List.set_cons_zero, List.set_cons_succ]
          refine takeH7 (v := ?_) (by kernel_rfl) (by kernel_rfl) (by kernel_rfl) (fun _ _ _ h => h) hHeld (by rfl) ?_ ?_
          rotate_left; · (intro w hSw; (try dsimp only at hSw); go_simp; try with_reducible rfl)
          try simp only [Act.put, List.setIfInBounds_toArray, List.set_cons_zero, List.set_cons_succ]
          refine callH8 (by kernel_rfl) (fun K hK => ?_)
          go_simp
          refine hK.out _ _ (⟨keepA sP00, keepA sP01, keepA sP02, keepA sP10, keepA sP11, keepA sP12⟩) (fun hHeld => ?_)
          clear hK K
          try simp only [Act.put, List.setIfInBounds_toArray, List.set_cons_zero, List.set_cons_succ]
          have hside : w7.heap.size ≤ w7.heap.size := Nat.le_refl _
          have hbA : Below w7.heap.size w7 (w7.alloc (.cells #[.slice none 0 0, .slice none 0 0, .slice none 0 0] 44)) := below_alloc (Nat.le_refl _) (Below.refl _ _)
          have bz : Box (w7.alloc (.cells #[.slice none 0 0, .slice none 0 0, .slice none 0 0] 44)) w7.heap.size 44 #[.slice none 0 0, .slice none 0 0, .slice none 0 0] := Box.new _ _ _
          have hsz0 := hwC.size
          replace hwC := below_then hbA hwC.size hwC
          have hneP0 : w.heap.size ≠ w7.heap.size := by have := bxP0.lt; omega
          have hneP1 : w1.heap.size ≠ w7.heap.size := by have := bxP1.lt; omega
          replace bxP0 := bxP0.on hbA
          replace bxP1 := bxP1.on hbA
          replace fy0 := fy0.step hbA
          replace fy1 := fy1.step hbA
          replace fr := fr.step hbA
          clear hbA
          generalize w7.alloc (.cells #[.slice none 0 0, .slice none 0 0, .slice none 0 0] 44) = wA3 at *
          have sP00 : wA3.cell? ⟨w.heap.size, 0, none⟩ = some (.slice A0a n0a c0a) := bxP0.cell 0
          have sP01 : wA3.cell? ⟨w.heap.size, 1, none⟩ = some (.slice A0b n0b c0b) := bxP0.cell 1
          have sP02 : wA3.cell? ⟨w.heap.size, 2, none⟩ = some (.slice A0c n0c c0c) := bxP0.cell 2
          have sP10 : wA3.cell? ⟨w1.heap.size, 0, none⟩ = some (.slice A1a n1a c1a) := bxP1.cell 0
          have sP11 : wA3.cell? ⟨w1.heap.size, 1, none⟩ = some (.slice A1b n1b c1b) := bxP1.cell 1
          have sP12 : wA3.cell? ⟨w1.heap.size, 2, none⟩ = some (.slice A1c n1c c1c) := bxP1.cell 2
          have hsep0 := hneP0
          have hsep1 := hneP1
          have qz0 := bz.cell 0
          have qz1 := bz.cell 1
          have qz2 := bz.cell 2
          have qh0 := bz.hot 0
          have qh1 := bz.hot 1
          have qh2 := bz.hot 2
          simp only [List.getElem?_toArray, List.getElem?_cons_zero, List.getElem?_cons_succ] at qz0 qz1 qz2
          refine callH9 (by kernel_rfl) (fun K hK => ?_)
          go_simp
          refine hK.out _ _ (by refine ⟨?_, ?_, ?_, ?_, ?_, ?_⟩ <;> (refine keepS (keepS (keepS ?_ ?_) ?_) ?_ <;> first | assumption | exact hsep0 | exact hsep1)) (fun hHeld => ?_)
          clear hK K
          try simp only [Act.put, List.setIfInBounds_toArray, List.set_cons_zero, List.set_cons_succ]
          refine takeH10 (v := ?_) (by kernel_rfl) (by kernel_rfl) (by kernel_rfl) (fun _ _ _ h => h) hHeld (by rfl) ?_ ?_
          rotate_left; · (intro w hSw; (try dsimp only at hSw); go_simp; try with_reducible rfl)
          try simp only [Act.put, List.setIfInBounds_toArray, List.set_cons_zero, List.set_cons_succ]
          refine wpAnyH_done (by kernel_rfl) ?_ _
          go_wp2_with fail; go_meet
          refine Lib.hid ⟨_, _, _, _, _, _, _, _, _, rfl, rfl, bz.set3 _ _ _, or, fr.set3 (by first | exact .inl hside | exact .inr hside) _ _ _, below_set3 hwC hwC.size (by omega) _ _ _, ?_, ?_⟩
          · exact bxP0.far3 hneP0 _ _ _
          · exact bxP1.far3 hneP1 _ _ _
        · go_simp
          refine hK.out _ _ (⟨keepA sP00, keepA sP01, keepA sP02, keepA sP10, keepA sP11, keepA sP12⟩) (fun hHeld => ?_)
          clear hK K
          try simp only [Act.put, List.setIfInBounds_toArray, List.set_cons_zero, List.set_cons_succ]
          have hbA : Below w6.heap.size w6 (w6.alloc (.cells #[.slice none 0 0, .slice none 0 0, .slice none 0 0] 44)) := below_alloc (Nat.le_refl _) (Below.refl _ _)
          have bz : Box (w6.alloc (.cells #[.slice none 0 0, .slice none 0 0, .slice none 0 0] 44)) w6.heap.size 44 #[.slice none 0 0, .slice none 0 0, .slice none 0 0] := Box.new _ _ _
          have hsz0 := hwC.size
          replace hwC := below_then hbA hwC.size hwC
          have hneP0 : w.heap.size ≠ w6.heap.size := by have := bxP0.lt; omega
          have hneP1 : w1.heap.size ≠ w6.heap.size := by have := bxP1.lt; omega
          replace bxP0 := bxP0.on hbA
          replace bxP1 := bxP1.on hbA
          replace fy0 := fy0.step hbA
          replace fy1 := fy1.step hbA
          clear hbA
          generalize w6.alloc (.cells #[.slice none 0 0, .slice none 0 0, .slice none 0 0] 44) = wA2 at *
          have sP00 : wA2.cell? ⟨w.heap.size, 0, none⟩ = some (.slice A0a n0a c0a) := bxP0.cell 0
          have sP01 : wA2.cell? ⟨w.heap.size, 1, none⟩ = some (.slice A0b n0b c0b) := bxP0.cell 1
          have sP02 : wA2.cell? ⟨w.heap.size, 2, none⟩ = some (.slice A0c n0c c0c) := bxP0.cell 2
          have sP10 : wA2.cell? ⟨w1.heap.size, 0, none⟩ = some (.slice A1a n1a c1a) := bxP1.cell 0
          have sP11 : wA2.cell? ⟨w1.heap.size, 1, none⟩ = some (.slice A1b n1b c1b) := bxP1.cell 1
          have sP12 : wA2.cell? ⟨w1.heap.size, 2, none⟩ = some (.slice A1c n1c c1c) := bxP1.cell 2
          refine callH4 (by kernel_rfl) (fun K hK => ?_)
          go_simp
          go_at_call 26
          refine (specJoinedGame _ _ _ _ _ _ _ _ _ _ (Nat.le_refl _) (oy0.hold fy0).reads (oy1.hold fy1).reads).mono ?_; rintro e w7 ⟨vra, vrb, vrc, rfl, or, hbw7⟩
          obtain ⟨Ara, cra, Arb, crb, Arc, crc, rfl, rfl, rfl⟩ := or.form
          replace hwC := below_then hbw7 hwC.size hwC
          have hside := bz.lt
          replace bxP0 := bxP0.on hbw7
          replace bxP1 := bxP1.on hbw7
          replace fy0 := fy0.step hbw7
          replace fy1 := fy1.step hbw7
          replace bz := bz.on hbw7
          have fr := Far.refl wA2.heap.size w7
          have sP00 : w7.cell? ⟨w.heap.size, 0, none⟩ = some (.slice A0a n0a c0a) := bxP0.cell 0
          have sP01 : w7.cell? ⟨w.heap.size, 1, none⟩ = some (.slice A0b n0b c0b) := bxP0.cell 1
          have sP02 : w7.cell? ⟨w.heap.size, 2, none⟩ = some (.slice A0c n0c c0c) := bxP0.cell 2
          have sP10 : w7.cell? ⟨w1.heap.size, 0, none⟩ = some (.slice A1a n1a c1a) := bxP1.cell 0
          have sP11 : w7.cell? ⟨w1.heap.size, 1, none⟩ = some (.slice A1b n1b c1b) := bxP1.cell 1
          have sP12 : w7.cell? ⟨w1.heap.size, 2, none⟩ = some (.slice A1c n1c c1c) := bxP1.cell 2
          go_wp2_with fail
          refine hK.out _ _ (⟨sP00, sP01, sP02, sP10, sP11, sP12⟩) (fun hHeld => ?_)
          clear hK K
          try simp only [Act.put, List.setIfInBounds_toArray, List.set_cons_zero, List.set_cons_succ]
          refine takeH5 (v := ?_) (by kernel_rfl) (by kernel_rfl) (by kernel_rfl) (fun _ _ _ h => h) hHeld (by rfl) ?_ ?_
          rotate_left; · (intro w hSw; (try dsimp only at hSw); go_simp; try with_reducible rfl)
          try simp only [Act.put, List.setIfInBounds_toArray, List.set_cons_zero, List.set_cons_succ]
          refine takeH6 (v := ?_) (by kernel_rfl) (by kernel_rfl) (by kernel_rfl) (fun _ _ _ h => h) hHeld (by rfl) ?_ ?_
          rotate_left; · (intro w hSw; (try dsimp only at hSw); go_simp; try with_reducible rfl)
          try simp only [Act.put, List.setIfInBounds_toArray, List.set_cons_zero, List.set_cons_succ]
          refine takeH7 (v := ?_) (by kernel_rfl) (by kernel_rfl) (by kernel_rfl) (fun _ _ _ h => h) hHeld (by rfl) ?_ ?_
          rotate_left; · (intro w hSw; (try dsimp only at hSw); go_simp; try with_reducible rfl)
          try simp only [Act.put, List.setIfInBounds_toArray, List.set_cons_zero, List.set_cons_succ]
          have hsep0 := hneP0
          have hsep1 := hneP1
          have qz0 := bz.cell 0
          have qz1 := bz.cell 1
          have qz2 := bz.cell 2
          have qh0 := bz.hot 0
          have qh1 := bz.hot 1
          have qh2 := bz.hot 2
          simp only [List.getElem?_toArray, List.getElem?_cons_zero, List.getElem?_cons_succ] at qz0 qz1 qz2
          refine callH9 (by kernel_rfl) (fun K hK => ?_)
          go_simp
          refine hK.out _ _ (by refine ⟨?_, ?_, ?_, ?_, ?_, ?_⟩ <;> (refine keepS (keepS (keepS ?_ ?_) ?_) ?_ <;> first | assumption | exact hsep0 | exact hsep1)) (fun hHeld => ?_)
          clear hK K
          try simp only [Act.put, List.setIfInBounds_toArray, List.set_cons_zero, List.set_cons_succ]
          refine takeH10 (v := ?_) (by kernel_rfl) (by kernel_rfl) (by kernel_rfl) (fun _ _ _ h => h) hHeld (by rfl) ?_ ?_
          rotate_left; · (intro w hSw; (try dsimp only at hSw); go_simp; try with_reducible rfl)
          try simp only [Act.put, List.setIfInBounds_toArray, List.set_cons_zero, List.set_cons_succ]
          refine wpAnyH_done (by kernel_rfl) ?_ _
          go_wp2_with fail; go_meet
          refine Lib.hid ⟨_, _, _, _, _, _, _, _, _, rfl, rfl, bz.set3 _ _ _, or, fr.set3 (by first | exact .inl hside | exact .inr hside) _ _ _, below_set3 hwC hwC.size (by omega) _ _ _, ?_, ?_⟩
          · exact bxP0.far3 hneP0 _ _ _
          · exact bxP1.far3 hneP1 _ _ _
      · go_simp
        refine hK.out _ _ (⟨keepA sP00, keepA sP01, keepA sP02, keepA sP10, keepA sP11, keepA sP12⟩) (fun hHeld => ?_)
        clear hK K
        try simp only [Act.put, List.setIfInBounds_toArray, List.set_cons_zero, List.set_cons_succ]
        have hbA : Below w5.heap.size w5 (w5.alloc (.cells #[.slice none 0 0, .slice none 0 0, .slice none 0 0] 44)) := below_alloc (Nat.le_refl _) (Below.refl _ _)
        have bz : Box (w5.alloc (.cells #[.slice none 0 0, .slice none 0 0, .slice none 0 0] 44)) w5.heap.size 44 #[.slice none 0 0, .slice none 0 0, .slice none 0 0] := Box.new _ _ _
        have hsz0 := hwC.size
        replace hwC := below_then hbA hwC.size hwC
        have hneP0 : w.heap.size ≠ w5.heap.size := by have := bxP0.lt; omega
        have hneP1 : w1.heap.size ≠ w5.heap.size := by have := bxP1.lt; omega
        replace bxP0 := bxP0.on hbA
        replace bxP1 := bxP1.on hbA
        replace fy0 := fy0.step hbA
        clear hbA
        generalize w5.alloc (.cells #[.slice none 0 0, .slice none 0 0, .slice none 0 0] 44) = wA1 at *
        have sP00 : wA1.cell? ⟨w.heap.size, 0, none⟩ = some (.slice A0a n0a c0a) := bxP0.cell 0
        have sP01 : wA1.cell? ⟨w.heap.size, 1, none⟩ = some (.slice A0b n0b c0b) := bxP0.cell 1
        have sP02 : wA1.cell? ⟨w.heap.size, 2, none⟩ = some (.slice A0c n0c c0c) := bxP0.cell 2
        have sP10 : wA1.cell? ⟨w1.heap.size, 0, none⟩ = some (.slice A1a n1a c1a) := bxP1.cell 0
        have sP11 : wA1.cell? ⟨w1.heap.size, 1, none⟩ = some (.slice A1b n1b c1b) := bxP1.cell 1
        have sP12 : wA1.cell? ⟨w1.heap.size, 2, none⟩ = some (.slice A1c n1c c1c) := bxP1.cell 2
        refine callH3 (by kernel_rfl) (fun K hK => ?_)
        go_simp
        go_at_call 27
        refine (toParity _ _ _ _ _ _ (Nat.le_refl _) (ha1.keep (keeps_below hwC)) hm1).mono ?_; rintro e w6 ⟨vy1a, vy1b, vy1c, rfl, oy1, hbw6⟩
        obtain ⟨Ay1a, cy1a, Ay1b, cy1b, Ay1c, cy1c, rfl, rfl, rfl⟩ := oy1.form
        replace hwC := below_then hbw6 hwC.size hwC
        replace bxP0 := bxP0.on hbw6
        replace bxP1 := bxP1.on hbw6
        replace fy0 := fy0.step hbw6
        replace bz := bz.on hbw6
        have fy1 := Far.refl wA1.heap.size w6
        have sP00 : w6.cell? ⟨w.heap.size, 0, none⟩ = some (.slice A0a n0a c0a) := bxP0.cell 0
        have sP01 : w6.cell? ⟨w.heap.size, 1, none⟩ = some (.slice A0b n0b c0b) := bxP0.cell 1
        have sP02 : w6.cell? ⟨w.heap.size, 2, none⟩ = some (.slice A0c n0c c0c) := bxP0.cell 2
        have sP10 : w6.cell? ⟨w1.heap.size, 0, none⟩ = some (.slice A1a n1a c1a) := bxP1.cell 0
        have sP11 : w6.cell? ⟨w1.heap.size, 1, none⟩ = some (.slice A1b n1b c1b) := bxP1.cell 1
        have sP12 : w6.cell? ⟨w1.heap.size, 2, none⟩ = some (.slice A1c n1c c1c) := bxP1.cell 2
        go_wp2_with fail
        refine hK.out _ _ (⟨sP00, sP01, sP02, sP10, sP11, sP12⟩) (fun hHeld => ?_)
        clear hK K
        try simp only [Act.put, List.setIfInBounds_toArray, List.set_cons_zero, List.set_cons_succ]
        refine callH4 (by kernel_rfl) (fun K hK => ?_)
        go_simp
        go_at_call 26
        refine (specJoinedGame _ _ _ _ _ _ _ _ _ _ (Nat.le_refl _) (oy0.hold fy0).reads (oy1.hold fy1).reads).mono ?_; rintro e w7 ⟨vra, vrb, vrc, rfl, or, hbw7⟩
        obtain ⟨Ara, cra, Arb, crb, Arc, crc, rfl, rfl, rfl⟩ := or.form
        replace hwC := below_then hbw7 hwC.size hwC
        have hside := bz.lt
        replace bxP0 := bxP0.on hbw7
        replace bxP1 := bxP1.on hbw7
        replace fy0 := fy0.step hbw7
        replace fy1 := fy1.step hbw7
        replace bz := bz.on hbw7
        have fr := Far.refl w6.heap.size w7
        have sP00 : w7.cell? ⟨w.heap.size, 0, none⟩ = some (.slice A0a n0a c0a) := bxP0.cell 0
        have sP01 : w7.cell? ⟨w.heap.size, 1, none⟩ = some (.slice A0b n0b c0b) := bxP0.cell 1
        have sP02 : w7.cell? ⟨w.heap.size, 2, none⟩ = some (.slice A0c n0c c0c) := bxP0.cell 2
        have sP10 : w7.cell? ⟨w1.heap.size, 0, none⟩ = some (.slice A1a n1a c1a) := bxP1.cell 0
        have sP11 : w7.cell? ⟨w1.heap.size, 1, none⟩ = some (.slice A1b n1b c1b) := bxP1.cell 1
        have sP12 : w7.cell? ⟨w1.heap.size, 2, none⟩ = some (.slice A1c n1c c1c) := bxP1.cell 2
        go_wp2_with fail
        refine hK.out _ _ (⟨sP00, sP01, sP02, sP10, sP11, sP12⟩) (fun hHeld => ?_)
        clear hK K
        try simp only [Act.put, List.setIfInBounds_toArray, List.set_cons_zero, List.set_cons_succ]
        refine takeH5 (v := ?_) (by kernel_rfl) (by kernel_rfl) (by kernel_rfl) (fun _ _ _ h => h) hHeld (by rfl) ?_ ?_
        rotate_left; · (intro w hSw; (try dsimp only at hSw); go_simp; try with_reducible rfl)
        try simp only [Act.put, List.setIfInBounds_toArray, List.set_cons_zero, List.set_cons_succ]
        refine takeH6 (v := ?_) (by kernel_rfl) (by kernel_rfl) (by kernel_rfl) (fun _ _ _ h => h) hHeld (by rfl) ?_ ?_
        rotate_left; · (intro w hSw; (try dsimp only at hSw); go_simp; try with_reducible rfl)
        try simp only [Act.put, List.setIfInBounds_toArray, List.set_cons_zero, List.set_cons_succ]
        refine takeH7 (v := ?_) (by kernel_rfl) (by kernel_rfl) (by kernel_rfl) (fun _ _ _ h => h) hHeld (by rfl) ?_ ?_
        rotate_left; · (intro w hSw; (try dsimp only at hSw); go_simp; try with_reducible rfl)
        try simp only [Act.put, List.setIfInBounds_toArray, List.set_cons_zero, List.set_cons_succ]
        have hsep0 := hneP0
        have hsep1 := hneP1
        have qz0 := bz.cell 0
        have qz1 := bz.cell 1
        have qz2 := bz.cell 2
        have qh0 := bz.hot 0
        have qh1 := bz.hot 1
        have qh2 := bz.hot 2
        simp only [List.getElem?_toArray, List.getElem?_cons_zero, List.getElem?_cons_succ] at qz0 qz1 qz2
        refine callH9 (by kernel_rfl) (fun K hK => ?_)
        go_simp
        refine hK.out _ _ (by refine ⟨?_, ?_, ?_, ?_, ?_, ?_⟩ <;> (refine keepS (keepS (keepS ?_ ?_) ?_) ?_ <;> first | assumption | exact hsep0 | exact hsep1)) (fun hHeld => ?_)
        clear hK K
        try simp only [Act.put, List.setIfInBounds_toArray, List.set_cons_zero, List.set_cons_succ]
        refine takeH10 (v := ?_) (by kernel_rfl) (by kernel_rfl) (by kernel_rfl) (fun _ _ _ h => h) hHeld (by rfl) ?_ ?_
        rotate_left; · (intro w hSw; (try dsimp only at hSw); go_simp; try with_reducible rfl)
        try simp only [Act.put, List.setIfInBounds_toArray, List.set_cons_zero, List.set_cons_succ]
        refine wpAnyH_done (by kernel_rfl) ?_ _
        go_wp2_with fail; go_meet
        refine Lib.hid ⟨_, _, _, _, _, _, _, _, _, rfl, rfl, bz.set3 _ _ _, or, fr.set3 (by first | exact .inl hside | exact .inr hside) _ _ _, below_set3 hwC hwC.size (by omega) _ _ _, ?_, ?_⟩
        · exact bxP0.far3 hneP0 _ _ _
        · exact bxP1.far3 hneP1 _ _ _
    · go_simp
      refine hK.out _ _ (⟨keepA sP00, keepA sP01, keepA sP02, keepA sP10, keepA sP11, keepA sP12⟩) (fun hHeld => ?_)
      clear hK K
      try simp only [Act.put, List.setIfInBounds_toArray, List.set_cons_zero, List.set_cons_succ]
      have hbA : Below wD.heap.size wD (wD.alloc (.cells #[.slice none 0 0, .slice none 0 0, .slice none 0 0] 44)) := below_alloc (Nat.le_refl _) (Below.refl _ _)
      have bz : Box (wD.alloc (.cells #[.slice none 0 0, .slice none 0 0, .slice none 0 0] 44)) wD.heap.size 44 #[.slice none 0 0, .slice none 0 0, .slice none 0 0] := Box.new _ _ _
      have hsz0 := hwC.size
      replace hwC := below_then hbA hwC.size hwC
      have hneP0 : w.heap.size ≠ wD.heap.size := by have := bxP0.lt; omega
      have hneP1 : w1.heap.size ≠ wD.heap.size := by have := bxP1.lt; omega
      replace bxP0 := bxP0.on hbA
      replace bxP1 := bxP1.on hbA
      clear hbA
      generalize wD.alloc (.cells #[.slice none 0 0, .slice none 0 0, .slice none 0 0] 44) = wA0 at *
      have sP00 : wA0.cell? ⟨w.heap.size, 0, none⟩ = some (.slice A0a n0a c0a) := bxP0.cell 0
      have sP01 : wA0.cell? ⟨w.heap.size, 1, none⟩ = some (.slice A0b n0b c0b) := bxP0.cell 1
      have sP02 : wA0.cell? ⟨w.heap.size, 2, none⟩ = some (.slice A0c n0c c0c) := bxP0.cell 2
      have sP10 : wA0.cell? ⟨w1.heap.size, 0, none⟩ = some (.slice A1a n1a c1a) := bxP1.cell 0
      have sP11 : wA0.cell? ⟨w1.heap.size, 1, none⟩ = some (.slice A1b n1b c1b) := bxP1.cell 1
      have sP12 : wA0.cell? ⟨w1.heap.size, 2, none⟩ = some (.slice A1c n1c c1c) := bxP1.cell 2
      refine callH1 (by kernel_rfl) (fun K hK => ?_)
      go_simp
      go_at_call 27
      refine (toParity _ _ _ _ _ _ (Nat.le_refl _) (ha0.keep (keeps_below hwC)) hm0).mono ?_; rintro e w5 ⟨vy0a, vy0b, vy0c, rfl, oy0, hbw5⟩
      obtain ⟨Ay0a, cy0a, Ay0b, cy0b, Ay0c, cy0c, rfl, rfl, rfl⟩ := oy0.form
      replace hwC := below_then hbw5 hwC.size hwC
      replace bxP0 := bxP0.on hbw5
      replace bxP1 := bxP1.on hbw5
      replace bz := bz.on hbw5
      have fy0 := Far.refl wA0.heap.size w5
      have sP00 : w5.cell? ⟨w.heap.size, 0, none⟩ = some (.slice A0a n0a c0a) := bxP0.cell 0
      have sP01 : w5.cell? ⟨w.heap.size, 1, none⟩ = some (.slice A0b n0b c0b) := bxP0.cell 1
      have sP02 : w5.cell? ⟨w.heap.size, 2, none⟩ = some (.slice A0c n0c c0c) := bxP0.cell 2
      have sP10 : w5.cell? ⟨w1.heap.size, 0, none⟩ = some (.slice A1a n1a c1a) := bxP1.cell 0
      have sP11 : w5.cell? ⟨w1.heap.size, 1, none⟩ = some (.slice A1b n1b c1b) := bxP1.cell 1
      have sP12 : w5.cell? ⟨w1.heap.size, 2, none⟩ = some (.slice A1c n1c c1c) := bxP1.cell 2
      go_wp2_with fail
      refine hK.out _ _ (⟨sP00, sP01, sP02, sP10, sP11, sP12⟩) (fun hHeld => ?_)
      clear hK K
      try simp only [Act.put, List.setIfInBounds_toArray, List.set_cons_zero, List.set_cons_succ]
      refine callH3 (by kernel_rfl) (fun K hK => ?_)
      go_simp
      go_at_call 27
      refine (toParity _ _ _ _ _ _ (Nat.le_refl _) (ha1.keep (keeps_below hwC)) hm1).mono ?_; rintro e w6 ⟨vy1a, vy1b, vy1c, rfl, oy1, hbw6⟩
      obtain ⟨Ay1a, cy1a, Ay1b, cy1b, Ay1c, cy1c, rfl, rfl, rfl⟩ := oy1.form
      replace hwC := below_then hbw6 hwC.size hwC
      replace bxP0 := bxP0.on hbw6
      replace bxP1 := bxP1.on hbw6
      replace fy0 := fy0.step hbw6
      replace bz := bz.on hbw6
      have fy1 := Far.refl w5.heap.size w6
      have sP00 : w6.cell? ⟨w.heap.size, 0, none⟩ = some (.slice A0a n0a c0a) := bxP0.cell 0
      have sP01 : w6.cell? ⟨w.heap.size, 1, none⟩ = some (.slice A0b n0b c0b) := bxP0.cell 1
      have sP02 : w6.cell? ⟨w.heap.size, 2, none⟩ = some (.slice A0c n0c c0c) := bxP0.cell 2
      have sP10 : w6.cell? ⟨w1.heap.size, 0, none⟩ = some (.slice A1a n1a c1a) := bxP1.cell 0
      have sP11 : w6.cell? ⟨w1.heap.size, 1, none⟩ = some (.slice A1b n1b c1b) := bxP1.cell 1
      have sP12 : w6.cell? ⟨w1.heap.size, 2, none⟩ = some (.slice A1c n1c c1c) := bxP1.cell 2
      go_wp2_with fail
      refine hK.out _ _ (⟨sP00, sP01, sP02, sP10, sP11, sP12⟩) (fun hHeld => ?_)
      clear hK K
      try simp only [Act.put, List.setIfInBounds_toArray, List.set_cons_zero, List.set_cons_succ]
      refine callH4 (by kernel_rfl) (fun K hK => ?_)
      go_simp
      go_at_call 26
      refine (specJoinedGame _ _ _ _ _ _ _ _ _ _ (Nat.le_refl _) (oy0.hold fy0).reads (oy1.hold fy1).reads).mono ?_; rintro e w7 ⟨vra, vrb, vrc, rfl, or, hbw7⟩
      obtain ⟨Ara, cra, Arb, crb, Arc, crc, rfl, rfl, rfl⟩ := or.form
      replace hwC := below_then hbw7 hwC.size hwC
      have hside := bz.lt
      replace bxP0 := bxP0.on hbw7
      replace bxP1 := bxP1.on hbw7
      replace fy0 := fy0.step hbw7
      replace fy1 := fy1.step hbw7
      replace bz := bz.on hbw7
      have fr := Far.refl w6.heap.size w7
      have sP00 : w7.cell? ⟨w.heap.size, 0, none⟩ = some (.slice A0a n0a c0a) := bxP0.cell 0
      have sP01 : w7.cell? ⟨w.heap.size, 1, none⟩ = some (.slice A0b n0b c0b) := bxP0.cell 1
      have sP02 : w7.cell? ⟨w.heap.size, 2, none⟩ = some (.slice A0c n0c c0c) := bxP0.cell 2
      have sP10 : w7.cell? ⟨w1.heap.size, 0, none⟩ = some (.slice A1a n1a c1a) := bxP1.cell 0
      have sP11 : w7.cell? ⟨w1.heap.size, 1, none⟩ = some (.slice A1b n1b c1b) := bxP1.cell 1
      have sP12 : w7.cell? ⟨w1.heap.size, 2, none⟩ = some (.slice A1c n1c c1c) := bxP1.cell 2
      go_wp2_with fail
      refine hK.out _ _ (⟨sP00, sP01, sP02, sP10, sP11, sP12⟩) (fun hHeld => ?_)
      clear hK K
      try simp only [Act.put, List.setIfInBounds_toArray, List.set_cons_zero, List.set_cons_succ]
      refine takeH5 (v := ?_) (by kernel_rfl) (by kernel_rfl) (by kernel_rfl) (fun _ _ _ h => h) hHeld (by rfl) ?_ ?_
      rotate_left; · (intro w hSw; (try dsimp only at hSw); go_simp; try with_reducible rfl)
      try simp only [Act.put, List.setIfInBounds_toArray, List.set_cons_zero, List.set_cons_succ]
      refine takeH6 (v := ?_) (by kernel_rfl) (by kernel_rfl) (by kernel_rfl) (fun _ _ _ h => h) hHeld (by rfl) ?_ ?_
      rotate_left; · (intro w hSw; (try dsimp only at hSw); go_simp; try with_reducible rfl)
      try simp only [Act.put, List.setIfInBounds_toArray, List.set_cons_zero, List.set_cons_succ]
      refine takeH7 (v := ?_) (by kernel_rfl) (by kernel_rfl) (by kernel_rfl) (fun _ _ _ h => h) hHeld (by rfl) ?_ ?_
      rotate_left; · (intro w hSw; (try dsimp only at hSw); go_simp; try with_reducible rfl)
      try simp only [Act.put, List.setIfInBounds_toArray, List.set_cons_zero, List.set_cons_succ]
      have hsep0 := hneP0
      have hsep1 := hneP1
      have qz0 := bz.cell 0
      have qz1 := bz.cell 1
      have qz2 := bz.cell 2
      have qh0 := bz.hot 0
      have qh1 := bz.hot 1
      have qh2 := bz.hot 2
      simp only [List.getElem?_toArray, List.getElem?_cons_zero, List.getElem?_cons_succ] at qz0 qz1 qz2
      refine callH9 (by kernel_rfl) (fun K hK => ?_)
      go_simp
      refine hK.out _ _ (by refine ⟨?_, ?_, ?_, ?_, ?_, ?_⟩ <;> (refine keepS (keepS (keepS ?_ ?_) ?_) ?_ <;> first | assumption | exact hsep0 | exact hsep1)) (fun hHeld => ?_)
      clear hK K
      try simp only [Act.put, List.setIfInBounds_toArray, List.set_cons_zero, List.set_cons_succ]
      refine takeH10 (v := ?_) (by kernel_rfl) (by kernel_rfl) (by kernel_rfl) (fun _ _ _ h => h) hHeld (by rfl) ?_ ?_
      rotate_left; · (intro w hSw; (try dsimp only at hSw); go_simp; try with_reducible rfl)
      try simp only [Act.put, List.setIfInBounds_toArray, List.set_cons_zero, List.set_cons_succ]
      refine wpAnyH_done (by kernel_rfl) ?_ _
      go_wp2_with fail; go_meet
      refine Lib.hid ⟨_, _, _, _, _, _, _, _, _, rfl, rfl, bz.set3 _ _ _, or, fr.set3 (by first | exact .inl hside | exact .inr hside) _ _ _, below_set3 hwC hwC.size (by omega) _ _ _, ?_, ?_⟩
      · exact bxP0.far3 hneP0 _ _ _
      · exact bxP1.far3 hneP1 _ _ _
  case rest =>
    obtain ⟨br, Ara, Arb, Arc, cra, crb, crc, lr, mr, rfl, rfl, bxr, or, fr, hv, byP0, byP1⟩ := hcut.out
    clear hcut
    clear bxP0; have bxP0 := byP0; clear byP0
    clear bxP1; have bxP1 := byP1; clear byP1
    have hww8 := hv; clear hv
    generalize wc = w8 at *
    have tr := fr.size; have vr := bxr.lt; have zw8 := hww8.size
    have vP0 := bxP0.lt
    have vP1 := bxP1.lt
    have qP00 : w8.cell? ⟨w.heap.size, 0, none⟩ = some (.slice A0a n0a c0a) := bxP0.cell 0
    have pP00 : ∀ o, (w8.alloc o).cell? ⟨w.heap.size, 0, none⟩ = some (.slice A0a n0a c0a) := fun o => keepA qP00
    have rP00 : w.heap.size < w8.heap.size := bxP0.lt
    have qP01 : w8.cell? ⟨w.heap.size, 1, none⟩ = some (.slice A0b n0b c0b) := bxP0.cell 1
    have pP01 : ∀ o, (w8.alloc o).cell? ⟨w.heap.size, 1, none⟩ = some (.slice A0b n0b c0b) := fun o => keepA qP01
    have rP01 : w.heap.size < w8.heap.size := bxP0.lt
    have qP02 : w8.cell? ⟨w.heap.size, 2, none⟩ = some (.slice A0c n0c c0c) := bxP0.cell 2
    have pP02 : ∀ o, (w8.alloc o).cell? ⟨w.heap.size, 2, none⟩ = some (.slice A0c n0c c0c) := fun o => keepA qP02
    have rP02 : w.heap.size < w8.heap.size := bxP0.lt
    have qP10 : w8.cell? ⟨w1.heap.size, 0, none⟩ = some (.slice A1a n1a c1a) := bxP1.cell 0
    have pP10 : ∀ o, (w8.alloc o).cell? ⟨w1.heap.size, 0, none⟩ = some (.slice A1a n1a c1a) := fun o => keepA qP10
    have rP10 : w1.heap.size < w8.heap.size := bxP1.lt
    have qP11 : w8.cell? ⟨w1.heap.size, 1, none⟩ = some (.slice A1b n1b c1b) := bxP1.cell 1
    have pP11 : ∀ o, (w8.alloc o).cell? ⟨w1.heap.size, 1, none⟩ = some (.slice A1b n1b c1b) := fun o => keepA qP11
    have rP11 : w1.heap.size < w8.heap.size := bxP1.lt
    have qP12 : w8.cell? ⟨w1.heap.size, 2, none⟩ = some (.slice A1c n1c c1c) := bxP1.cell 2
    have pP12 : ∀ o, (w8.alloc o).cell? ⟨w1.heap.size, 2, none⟩ = some (.slice A1c n1c c1c) := fun o => keepA qP12
    have rP12 : w1.heap.size < w8.heap.size := bxP1.lt
    have qr0 : w8.cell? ⟨br, 0, none⟩ = some (.slice Ara (joinG z0 z1).1.length cra) := bxr.cell 0
    have pr0 : ∀ o, (w8.alloc o).cell? ⟨br, 0, none⟩ = some (.slice Ara (joinG z0 z1).1.length cra) := fun o => keepA qr0
    have rr0 : br < w8.heap.size := bxr.lt
    have qr1 : w8.cell? ⟨br, 1, none⟩ = some (.slice Arb (joinG z0 z1).2.1.length crb) := bxr.cell 1
    have pr1 : ∀ o, (w8.alloc o).cell? ⟨br, 1, none⟩ = some (.slice Arb (joinG z0 z1).2.1.length crb) := fun o => keepA qr1
    have rr1 : br < w8.heap.size := bxr.lt
    have qr2 : w8.cell? ⟨br, 2, none⟩ = some (.slice Arc (joinG z0 z1).2.2.length crc) := bxr.cell 2
    have pr2 : ∀ o, (w8.alloc o).cell? ⟨br, 2, none⟩ = some (.slice Arc (joinG z0 z1).2.2.length crc) := fun o => keepA qr2
    have rr2 : br < w8.heap.size := bxr.lt
    go_wp2_with fail
    clear qP00 pP00 rP00 qP01 pP01 rP01 qP02 pP02 rP02 qP10 pP10 rP10 qP11 pP11 rP11 qP12 pP12 rP12 qr0 pr0 rr0 qr1 pr1 rr1 qr2 pr2 rr2
    refine (toParity _ _ _ _ _ _ (Nat.le_refl _) (ha0.keep (keeps_below hww8)) hm0).mono ?_; rintro e w9 ⟨vx0a, vx0b, vx0c, rfl, ox0, hbw9⟩
    obtain ⟨Ax0a, cx0a, Ax0b, cx0b, Ax0c, cx0c, rfl, rfl, rfl⟩ := ox0.form
    have zw9 := hbw9.size
    have hww9 := below_then hbw9 hww8.size hww8
    replace fr := fr.step hbw9
    replace bxP0 := bxP0.below hbw9 bxP0.lt
    replace bxP1 := bxP1.below hbw9 bxP1.lt
    replace bxr := bxr.below hbw9 bxr.lt
    have fx0 := Far.refl w8.heap.size w9
    have qP00 : w9.cell? ⟨w.heap.size, 0, none⟩ = some (.slice A0a n0a c0a) := bxP0.cell 0
    have pP00 : ∀ o, (w9.alloc o).cell? ⟨w.heap.size, 0, none⟩ = some (.slice A0a n0a c0a) := fun o => keepA qP00
    have rP00 : w.heap.size < w9.heap.size := bxP0.lt
    have qP01 : w9.cell? ⟨w.heap.size, 1, none⟩ = some (.slice A0b n0b c0b) := bxP0.cell 1
    have pP01 : ∀ o, (w9.alloc o).cell? ⟨w.heap.size, 1, none⟩ = some (.slice A0b n0b c0b) := fun o => keepA qP01
    have rP01 : w.heap.size < w9.heap.size := bxP0.lt
    have qP02 : w9.cell? ⟨w.heap.size, 2, none⟩ = some (.slice A0c n0c c0c) := bxP0.cell 2
    have pP02 : ∀ o, (w9.alloc o).cell? ⟨w.heap.size, 2, none⟩ = some (.slice A0c n0c c0c) := fun o => keepA qP02
    have rP02 : w.heap.size < w9.heap.size := bxP0.lt
    have qP10 : w9.cell? ⟨w1.heap.size, 0, none⟩ = some (.slice A1a n1a c1a) := bxP1.cell 0
    have pP10 : ∀ o, (w9.alloc o).cell? ⟨w1.heap.size, 0, none⟩ = some (.slice A1a n1a c1a) := fun o => keepA qP10
    have rP10 : w1.heap.size < w9.heap.size := bxP1.lt
    have qP11 : w9.cell? ⟨w1.heap.size, 1, none⟩ = some (.slice A1b n1b c1b) := bxP1.cell 1
    have pP11 : ∀ o, (w9.alloc o).cell? ⟨w1.heap.size, 1, none⟩ = some (.slice A1b n1b c1b) := fun o => keepA qP11
    have rP11 : w1.heap.size < w9.heap.size := bxP1.lt
    have qP12 : w9.cell? ⟨w1.heap.size, 2, none⟩ = some (.slice A1c n1c c1c) := bxP1.cell 2
    have pP12 : ∀ o, (w9.alloc o).cell? ⟨w1.heap.size, 2, none⟩ = some (.slice A1c n1c c1c) := fun o => keepA qP12
    have rP12 : w1.heap.size < w9.heap.size := bxP1.lt
    have qr0 : w9.cell? ⟨br, 0, none⟩ = some (.slice Ara (joinG z0 z1).1.length cra) := bxr.cell 0
    have pr0 : ∀ o, (w9.alloc o).cell? ⟨br, 0, none⟩ = some (.slice Ara (joinG z0 z1).1.length cra) := fun o => keepA qr0
    have rr0 : br < w9.heap.size := bxr.lt
    have qr1 : w9.cell? ⟨br, 1, none⟩ = some (.slice Arb (joinG z0 z1).2.1.length crb) := bxr.cell 1
    have pr1 : ∀ o, (w9.alloc o).cell? ⟨br, 1, none⟩ = some (.slice Arb (joinG z0 z1).2.1.length crb) := fun o => keepA qr1
    have rr1 : br < w9.heap.size := bxr.lt
    have qr2 : w9.cell? ⟨br, 2, none⟩ = some (.slice Arc (joinG z0 z1).2.2.length crc) := bxr.cell 2
    have pr2 : ∀ o, (w9.alloc o).cell? ⟨br, 2, none⟩ = some (.slice Arc (joinG z0 z1).2.2.length crc) := fun o => keepA qr2
    have rr2 : br < w9.heap.size := bxr.lt
    go_wp2_with fail
    clear qP00 pP00 rP00 qP01 pP01 rP01 qP02 pP02 rP02 qP10 pP10 rP10 qP11 pP11 rP11 qP12 pP12 rP12 qr0 pr0 rr0 qr1 pr1 rr1 qr2 pr2 rr2
    have hww10 : Below w.heap.size w (w9.alloc (.cells #[.slice Ax0a (z0).1.length cx0a, .slice Ax0b (z0).2.1.length cx0b, .slice Ax0c (z0).2.2.length cx0c] 44)) := below_alloc (Nat.le_refl _) hww9
    have zw10 : w9.heap.size + 1 = (w9.alloc (.cells #[.slice Ax0a (z0).1.length cx0a, .slice Ax0b (z0).2.1.length cx0b, .slice Ax0c (z0).2.2.length cx0c] 44)).heap.size := by simp
    replace fr := fr.step (below_alloc (o := (.cells #[.slice Ax0a (z0).1.length cx0a, .slice Ax0b (z0).2.1.length cx0b, .slice Ax0c (z0).2.2.length cx0c] 44)) (Nat.le_refl _) (Below.refl _ _))
    replace fx0 := fx0.step (below_alloc (o := (.cells #[.slice Ax0a (z0).1.length cx0a, .slice Ax0b (z0).2.1.length cx0b, .slice Ax0c (z0).2.2.length cx0c] 44)) (Nat.le_refl _) (Below.refl _ _))
    replace bxP0 := bxP0.alloc (.cells #[.slice Ax0a (z0).1.length cx0a, .slice Ax0b (z0).2.1.length cx0b, .slice Ax0c (z0).2.2.length cx0c] 44)
    replace bxP1 := bxP1.alloc (.cells #[.slice Ax0a (z0).1.length cx0a, .slice Ax0b (z0).2.1.length cx0b, .slice Ax0c (z0).2.2.length cx0c] 44)
    replace bxr := bxr.alloc (.cells #[.slice Ax0a (z0).1.length cx0a, .slice Ax0b (z0).2.1.length cx0b, .slice Ax0c (z0).2.2.length cx0c] 44)
    have bxx0 := Box.new w9 44 #[.slice Ax0a (z0).1.length cx0a, .slice Ax0b (z0).2.1.length cx0b, .slice Ax0c (z0).2.2.length cx0c]
    generalize (w9.alloc (.cells #[.slice Ax0a (z0).1.length cx0a, .slice Ax0b (z0).2.1.length cx0b, .slice Ax0c (z0).2.2.length cx0c] 44)) = w10 at hww10 zw10 fr fx0 bxP0 bxP1 bxr bxx0 ⊢
    refine (toParity _ _ _ _ _ _ (Nat.le_refl _) (ha1.keep (keeps_below hww10)) hm1).mono ?_; rintro e w11 ⟨vx1a, vx1b, vx1c, rfl, ox1, hbw11⟩
    obtain ⟨Ax1a, cx1a, Ax1b, cx1b, Ax1c, cx1c, rfl, rfl, rfl⟩ := ox1.form
    have zw11 := hbw11.size
    have hww11 := below_then hbw11 hww10.size hww10
    replace fr := fr.step hbw11
    replace fx0 := fx0.step hbw11
    replace bxP0 := bxP0.below hbw11 bxP0.lt
    replace bxP1 := bxP1.below hbw11 bxP1.lt
    replace bxr := bxr.below hbw11 bxr.lt
    replace bxx0 := bxx0.below hbw11 bxx0.lt
    have fx1 := Far.refl w10.heap.size w11
    have qP00 : w11.cell? ⟨w.heap.size, 0, none⟩ = some (.slice A0a n0a c0a) := bxP0.cell 0
    have pP00 : ∀ o, (w11.alloc o).cell? ⟨w.heap.size, 0, none⟩ = some (.slice A0a n0a c0a) := fun o => keepA qP00
    have rP00 : w.heap.size < w11.heap.size := bxP0.lt
    have qP01 : w11.cell? ⟨w.heap.size, 1, none⟩ = some (.slice A0b n0b c0b) := bxP0.cell 1
    have pP01 : ∀ o, (w11.alloc o).cell? ⟨w.heap.size, 1, none⟩ = some (.slice A0b n0b c0b) := fun o => keepA qP01
    have rP01 : w.heap.size < w11.heap.size := bxP0.lt
    have qP02 : w11.cell? ⟨w.heap.size, 2, none⟩ = some (.slice A0c n0c c0c) := bxP0.cell 2
    have pP02 : ∀ o, (w11.alloc o).cell? ⟨w.heap.size, 2, none⟩ = some (.slice A0c n0c c0c) := fun o => keepA qP02
    have rP02 : w.heap.size < w11.heap.size := bxP0.lt
    have qP10 : w11.cell? ⟨w1.heap.size, 0, none⟩ = some (.slice A1a n1a c1a) := bxP1.cell 0
    have pP10 : ∀ o, (w11.alloc o).cell? ⟨w1.heap.size, 0, none⟩ = some (.slice A1a n1a c1a) := fun o => keepA qP10
    have rP10 : w1.heap.size < w11.heap.size := bxP1.lt
    have qP11 : w11.cell? ⟨w1.heap.size, 1, none⟩ = some (.slice A1b n1b c1b) := bxP1.cell 1
    have pP11 : ∀ o, (w11.alloc o).cell? ⟨w1.heap.size, 1, none⟩ = some (.slice A1b n1b c1b) := fun o => keepA qP11
    have rP11 : w1.heap.size < w11.heap.size := bxP1.lt
    have qP12 : w11.cell? ⟨w1.heap.size, 2, none⟩ = some (.slice A1c n1c c1c) := bxP1.cell 2
    have pP12 : ∀ o, (w11.alloc o).cell? ⟨w1.heap.size, 2, none⟩ = some (.slice A1c n1c c1c) := fun o => keepA qP12
    have rP12 : w1.heap.size < w11.heap.size := bxP1.lt
    have qr0 : w11.cell? ⟨br, 0, none⟩ = some (.slice Ara (joinG z0 z1).1.length cra) := bxr.cell 0
    have pr0 : ∀ o, (w11.alloc o).cell? ⟨br, 0, none⟩ = some (.slice Ara (joinG z0 z1).1.length cra) := fun o => keepA qr0
    have rr0 : br < w11.heap.size := bxr.lt
    have qr1 : w11.cell? ⟨br, 1, none⟩ = some (.slice Arb (joinG z0 z1).2.1.length crb) := bxr.cell 1
    have pr1 : ∀ o, (w11.alloc o).cell? ⟨br, 1, none⟩ = some (.slice Arb (joinG z0 z1).2.1.length crb) := fun o => keepA qr1
    have rr1 : br < w11.heap.size := bxr.lt
    have qr2 : w11.cell? ⟨br, 2, none⟩ = some (.slice Arc (joinG z0 z1).2.2.length crc) := bxr.cell 2
    have pr2 : ∀ o, (w11.alloc o).cell? ⟨br, 2, none⟩ = some (.slice Arc (joinG z0 z1).2.2.length crc) := fun o => keepA qr2
    have rr2 : br < w11.heap.size := bxr.lt
    have qx00 : w11.cell? ⟨w9.heap.size, 0, none⟩ = some (.slice Ax0a (z0).1.length cx0a) := bxx0.cell 0
    have px00 : ∀ o, (w11.alloc o).cell? ⟨w9.heap.size, 0, none⟩ = some (.slice Ax0a (z0).1.length cx0a) := fun o => keepA qx00
    have rx00 : w9.heap.size < w11.heap.size := bxx0.lt
    have qx01 : w11.cell? ⟨w9.heap.size, 1, none⟩ = some (.slice Ax0b (z0).2.1.length cx0b) := bxx0.cell 1
    have px01 : ∀ o, (w11.alloc o).cell? ⟨w9.heap.size, 1, none⟩ = some (.slice Ax0b (z0).2.1.length cx0b) := fun o => keepA qx01
    have rx01 : w9.heap.size < w11.heap.size := bxx0.lt
    have qx02 : w11.cell? ⟨w9.heap.size, 2, none⟩ = some (.slice Ax0c (z0).2.2.length cx0c) := bxx0.cell 2
    have px02 : ∀ o, (w11.alloc o).cell? ⟨w9.heap.size, 2, none⟩ = some (.slice Ax0c (z0).2.2.length cx0c) := fun o => keepA qx02
    have rx02 : w9.heap.size < w11.heap.size := bxx0.lt
    go_wp2_with fail
    clear qP00 pP00 rP00 qP01 pP01 rP01 qP02 pP02 rP02 qP10 pP10 rP10 qP11 pP11 rP11 qP12 pP12 rP12 qr0 pr0 rr0 qr1 pr1 rr1 qr2 pr2 rr2 qx00 px00 rx00 qx01 px01 rx01 qx02 px02 rx02
    have hww12 : Below w.heap.size w (w11.alloc (.cells #[.slice Ax1a (z1).1.length cx1a, .slice Ax1b (z1).2.1.length cx1b, .slice Ax1c (z1).2.2.length cx1c] 44)) := below_alloc (Nat.le_refl _) hww11
    have zw12 : w11.heap.size + 1 = (w11.alloc (.cells #[.slice Ax1a (z1).1.length cx1a, .slice Ax1b (z1).2.1.length cx1b, .slice Ax1c (z1).2.2.length cx1c] 44)).heap.size := by simp
    replace fr := fr.step (below_alloc (o := (.cells #[.slice Ax1a (z1).1.length cx1a, .slice Ax1b (z1).2.1.length cx1b, .slice Ax1c (z1).2.2.length cx1c] 44)) (Nat.le_refl _) (Below.refl _ _))
    replace fx0 := fx0.step (below_alloc (o := (.cells #[.slice Ax1a (z1).1.length cx1a, .slice Ax1b (z1).2.1.length cx1b, .slice Ax1c (z1).2.2.length cx1c] 44)) (Nat.le_refl _) (Below.refl _ _))
    replace fx1 := fx1.step (below_alloc (o := (.cells #[.slice Ax1a (z1).1.length cx1a, .slice Ax1b (z1).2.1.length cx1b, .slice Ax1c (z1).2.2.length cx1c] 44)) (Nat.le_refl _) (Below.refl _ _))
    replace bxP0 := bxP0.alloc (.cells #[.slice Ax1a (z1).1.length cx1a, .slice Ax1b (z1).2.1.length cx1b, .slice Ax1c (z1).2.2.length cx1c] 44)
    replace bxP1 := bxP1.alloc (.cells #[.slice Ax1a (z1).1.length cx1a, .slice Ax1b (z1).2.1.length cx1b, .slice Ax1c (z1).2.2.length cx1c] 44)
    replace bxr := bxr.alloc (.cells #[.slice Ax1a (z1).1.length cx1a, .slice Ax1b (z1).2.1.length cx1b, .slice Ax1c (z1).2.2.length cx1c] 44)
    replace bxx0 := bxx0.alloc (.cells #[.slice Ax1a (z1).1.length cx1a, .slice Ax1b (z1).2.1.length cx1b, .slice Ax1c (z1).2.2.length cx1c] 44)
    have bxx1 := Box.new w11 44 #[.slice Ax1a (z1).1.length cx1a, .slice Ax1b (z1).2.1.length cx1b, .slice Ax1c (z1).2.2.length cx1c]
    generalize (w11.alloc (.cells #[.slice Ax1a (z1).1.length cx1a, .slice Ax1b (z1).2.1.length cx1b, .slice Ax1c (z1).2.2.length cx1c] 44)) = w12 at hww12 zw12 fr fx0 fx1 bxP0 bxP1 bxr bxx0 bxx1 ⊢
    refine (implJoinedGame _ _ _ _ _ _ _ _ _ _ (Nat.le_refl _) (ox0.hold fx0).reads (ox1.hold fx1).reads).mono ?_; rintro e w13 ⟨vga, vgb, vgc, rfl, og, hbw13⟩
    obtain ⟨Aga, cga, Agb, cgb, Agc, cgc, rfl, rfl, rfl⟩ := og.form
    have zw13 := hbw13.size
    have hww13 := below_then hbw13 hww12.size hww12
    replace fr := fr.step hbw13
    replace fx0 := fx0.step hbw13
    replace fx1 := fx1.step hbw13
    replace bxP0 := bxP0.below hbw13 bxP0.lt
    replace bxP1 := bxP1.below hbw13 bxP1.lt
    replace bxr := bxr.below hbw13 bxr.lt
    replace bxx0 := bxx0.below hbw13 bxx0.lt
    replace bxx1 := bxx1.below hbw13 bxx1.lt
    have fg := Far.refl w12.heap.size w13
    have qP00 : w13.cell? ⟨w.heap.size, 0, none⟩ = some (.slice A0a n0a c0a) := bxP0.cell 0
    have pP00 : ∀ o, (w13.alloc o).cell? ⟨w.heap.size, 0, none⟩ = some (.slice A0a n0a c0a) := fun o => keepA qP00
    have rP00 : w.heap.size < w13.heap.size := bxP0.lt
    have qP01 : w13.cell? ⟨w.heap.size, 1, none⟩ = some (.slice A0b n0b c0b) := bxP0.cell 1
    have pP01 : ∀ o, (w13.alloc o).cell? ⟨w.heap.size, 1, none⟩ = some (.slice A0b n0b c0b) := fun o => keepA qP01
    have rP01 : w.heap.size < w13.heap.size := bxP0.lt
    have qP02 : w13.cell? ⟨w.heap.size, 2, none⟩ = some (.slice A0c n0c c0c) := bxP0.cell 2
    have pP02 : ∀ o, (w13.alloc o).cell? ⟨w.heap.size, 2, none⟩ = some (.slice A0c n0c c0c) := fun o => keepA qP02
    have rP02 : w.heap.size < w13.heap.size := bxP0.lt
    have qP10 : w13.cell? ⟨w1.heap.size, 0, none⟩ = some (.slice A1a n1a c1a) := bxP1.cell 0
    have pP10 : ∀ o, (w13.alloc o).cell? ⟨w1.heap.size, 0, none⟩ = some (.slice A1a n1a c1a) := fun o => keepA qP10
    have rP10 : w1.heap.size < w13.heap.size := bxP1.lt
    have qP11 : w13.cell? ⟨w1.heap.size, 1, none⟩ = some (.slice A1b n1b c1b) := bxP1.cell 1
    have pP11 : ∀ o, (w13.alloc o).cell? ⟨w1.heap.size, 1, none⟩ = some (.slice A1b n1b c1b) := fun o => keepA qP11
    have rP11 : w1.heap.size < w13.heap.size := bxP1.lt
    have qP12 : w13.cell? ⟨w1.heap.size, 2, none⟩ = some (.slice A1c n1c c1c) := bxP1.cell 2
    have pP12 : ∀ o, (w13.alloc o).cell? ⟨w1.heap.size, 2, none⟩ = some (.slice A1c n1c c1c) := fun o => keepA qP12
    have rP12 : w1.heap.size < w13.heap.size := bxP1.lt
    have qr0 : w13.cell? ⟨br, 0, none⟩ = some (.slice Ara (joinG z0 z1).1.length cra) := bxr.cell 0
    have pr0 : ∀ o, (w13.alloc o).cell? ⟨br, 0, none⟩ = some (.slice Ara (joinG z0 z1).1.length cra) := fun o => keepA qr0
    have rr0 : br < w13.heap.size := bxr.lt
    have qr1 : w13.cell? ⟨br, 1, none⟩ = some (.slice Arb (joinG z0 z1).2.1.length crb) := bxr.cell 1
    have pr1 : ∀ o, (w13.alloc o).cell? ⟨br, 1, none⟩ = some (.slice Arb (joinG z0 z1).2.1.length crb) := fun o => keepA qr1
    have rr1 : br < w13.heap.size := bxr.lt
    have qr2 : w13.cell? ⟨br, 2, none⟩ = some (.slice Arc (joinG z0 z1).2.2.length crc) := bxr.cell 2
    have pr2 : ∀ o, (w13.alloc o).cell? ⟨br, 2, none⟩ = some (.slice Arc (joinG z0 z1).2.2.length crc) := fun o => keepA qr2
    have rr2 : br < w13.heap.size := bxr.lt
    have qx00 : w13.cell? ⟨w9.heap.size, 0, none⟩ = some (.slice Ax0a (z0).1.length cx0a) := bxx0.cell 0
    have px00 : ∀ o, (w13.alloc o).cell? ⟨w9.heap.size, 0, none⟩ = some (.slice Ax0a (z0).1.length cx0a) := fun o => keepA qx00
    have rx00 : w9.heap.size < w13.heap.size := bxx0.lt
    have qx01 : w13.cell? ⟨w9.heap.size, 1, none⟩ = some (.slice Ax0b (z0).2.1.length cx0b) := bxx0.cell 1
    have px01 : ∀ o, (w13.alloc o).cell? ⟨w9.heap.size, 1, none⟩ = some (.slice Ax0b (z0).2.1.length cx0b) := fun o => keepA qx01
    have rx01 : w9.heap.size < w13.heap.size := bxx0.lt
    have qx02 : w13.cell? ⟨w9.heap.size, 2, none⟩ = some (.slice Ax0c (z0).2.2.length cx0c) := bxx0.cell 2
    have px02 : ∀ o, (w13.alloc o).cell? ⟨w9.heap.size, 2, none⟩ = some (.slice Ax0c (z0).2.2.length cx0c) := fun o => keepA qx02
    have rx02 : w9.heap.size < w13.heap.size := bxx0.lt
    have qx10 : w13.cell? ⟨w11.heap.size, 0, none⟩ = some (.slice Ax1a (z1).1.length cx1a) := bxx1.cell 0
    have px10 : ∀ o, (w13.alloc o).cell? ⟨w11.heap.size, 0, none⟩ = some (.slice Ax1a (z1).1.length cx1a) := fun o => keepA qx10
    have rx10 : w11.heap.size < w13.heap.size := bxx1.lt
    have qx11 : w13.cell? ⟨w11.heap.size, 1, none⟩ = some (.slice Ax1b (z1).2.1.length cx1b) := bxx1.cell 1
    have px11 : ∀ o, (w13.alloc o).cell? ⟨w11.heap.size, 1, none⟩ = some (.slice Ax1b (z1).2.1.length cx1b) := fun o => keepA qx11
    have rx11 : w11.heap.size < w13.heap.size := bxx1.lt
    have qx12 : w13.cell? ⟨w11.heap.size, 2, none⟩ = some (.slice Ax1c (z1).2.2.length cx1c) := bxx1.cell 2
    have px12 : ∀ o, (w13.alloc o).cell? ⟨w11.heap.size, 2, none⟩ = some (.slice Ax1c (z1).2.2.length cx1c) := fun o => keepA qx12
    have rx12 : w11.heap.size < w13.heap.size := bxx1.lt
    go_wp2_with fail
    clear qP00 pP00 rP00 qP01 pP01 rP01 qP02 pP02 rP02 qP10 pP10 rP10 qP11 pP11 rP11 qP12 pP12 rP12 qr0 pr0 rr0 qr1 pr1 rr1 qr2 pr2 rr2 qx00 px00 rx00 qx01 px01 rx01 qx02 px02 rx02 qx10 px10 rx10 qx11 px11 rx11 qx12 px12 rx12
    have hww14 : Below w.heap.size w (w13.alloc (.cells #[.slice Aga (joinG z0 z1).1.length cga, .slice Agb (joinG z0 z1).2.1.length cgb, .slice Agc (joinG z0 z1).2.2.length cgc] 44)) := below_alloc (Nat.le_refl _) hww13
    have zw14 : w13.heap.size + 1 = (w13.alloc (.cells #[.slice Aga (joinG z0 z1).1.length cga, .slice Agb (joinG z0 z1).2.1.length cgb, .slice Agc (joinG z0 z1).2.2.length cgc] 44)).heap.size := by simp
    replace fr := fr.step (below_alloc (o := (.cells #[.slice Aga (joinG z0 z1).1.length cga, .slice Agb (joinG z0 z1).2.1.length cgb, .slice Agc (joinG z0 z1).2.2.length cgc] 44)) (Nat.le_refl _) (Below.refl _ _))
    replace fx0 := fx0.step (below_alloc (o := (.cells #[.slice Aga (joinG z0 z1).1.length cga, .slice Agb (joinG z0 z1).2.1.length cgb, .slice Agc (joinG z0 z1).2.2.length cgc] 44)) (Nat.le_refl _) (Below.refl _ _))
    replace fx1 := fx1.step (below_alloc (o := (.cells #[.slice Aga (joinG z0 z1).1.length cga, .slice Agb (joinG z0 z1).2.1.length cgb, .slice Agc (joinG z0 z1).2.2.length cgc] 44)) (Nat.le_refl _) (Below.refl _ _))
    replace fg := fg.step (below_alloc (o := (.cells #[.slice Aga (joinG z0 z1).1.length cga, .slice Agb (joinG z0 z1).2.1.length cgb, .slice Agc (joinG z0 z1).2.2.length cgc] 44)) (Nat.le_refl _) (Below.refl _ _))
    replace bxP0 := bxP0.alloc (.cells #[.slice Aga (joinG z0 z1).1.length cga, .slice Agb (joinG z0 z1).2.1.length cgb, .slice Agc (joinG z0 z1).2.2.length cgc] 44)
    replace bxP1 := bxP1.alloc (.cells #[.slice Aga (joinG z0 z1).1.length cga, .slice Agb (joinG z0 z1).2.1.length cgb, .slice Agc (joinG z0 z1).2.2.length cgc] 44)
    replace bxr := bxr.alloc (.cells #[.slice Aga (joinG z0 z1).1.length cga, .slice Agb (joinG z0 z1).2.1.length cgb, .slice Agc (joinG z0 z1).2.2.length cgc] 44)
    replace bxx0 := bxx0.alloc (.cells #[.slice Aga (joinG z0 z1).1.length cga, .slice Agb (joinG z0 z1).2.1.length cgb, .slice Agc (joinG z0 z1).2.2.length cgc] 44)
    replace bxx1 := bxx1.alloc (.cells #[.slice Aga (joinG z0 z1).1.length cga, .slice Agb (joinG z0 z1).2.1.length cgb, .slice Agc (joinG z0 z1).2.2.length cgc] 44)
    have bxg := Box.new w13 44 #[.slice Aga (joinG z0 z1).1.length cga, .slice Agb (joinG z0 z1).2.1.length cgb, .slice Agc (joinG z0 z1).2.2.length cgc]
    generalize (w13.alloc (.cells #[.slice Aga (joinG z0 z1).1.length cga, .slice Agb (joinG z0 z1).2.1.length cgb, .slice Agc (joinG z0 z1).2.2.length cgc] 44)) = w14 at hww14 zw14 fr fx0 fx1 fg bxP0 bxP1 bxr bxx0 bxx1 bxg ⊢
    refine (eqParity _ _ _ _ _ _ _ _ _ _ (Nat.le_refl _) (og.hold fg).reads (or.hold fr).reads).mono ?_; rintro e w15 ⟨rfl, hbw15⟩
    have zw15 := hbw15.size
    have hww15 := below_then hbw15 hww14.size hww14
    replace fr := fr.step hbw15
    replace fx0 := fx0.step hbw15
    replace fx1 := fx1.step hbw15
    replace fg := fg.step hbw15
    replace bxP0 := bxP0.below hbw15 bxP0.lt
    replace bxP1 := bxP1.below hbw15 bxP1.lt
    replace bxr := bxr.below hbw15 bxr.lt
    replace bxx0 := bxx0.below hbw15 bxx0.lt
    replace bxx1 := bxx1.below hbw15 bxx1.lt
    replace bxg := bxg.below hbw15 bxg.lt
    rw [eqPar_self]
    have qP00 : w15.cell? ⟨w.heap.size, 0, none⟩ = some (.slice A0a n0a c0a) := bxP0.cell 0
    have pP00 : ∀ o, (w15.alloc o).cell? ⟨w.heap.size, 0, none⟩ = some (.slice A0a n0a c0a) := fun o => keepA qP00
    have rP00 : w.heap.size < w15.heap.size := bxP0.lt
    have qP01 : w15.cell? ⟨w.heap.size, 1, none⟩ = some (.slice A0b n0b c0b) := bxP0.cell 1
    have pP01 : ∀ o, (w15.alloc o).cell? ⟨w.heap.size, 1, none⟩ = some (.slice A0b n0b c0b) := fun o => keepA qP01
    have rP01 : w.heap.size < w15.heap.size := bxP0.lt
    have qP02 : w15.cell? ⟨w.heap.size, 2, none⟩ = some (.slice A0c n0c c0c) := bxP0.cell 2
    have pP02 : ∀ o, (w15.alloc o).cell? ⟨w.heap.size, 2, none⟩ = some (.slice A0c n0c c0c) := fun o => keepA qP02
    have rP02 : w.heap.size < w15.heap.size := bxP0.lt
    have qP10 : w15.cell? ⟨w1.heap.size, 0, none⟩ = some (.slice A1a n1a c1a) := bxP1.cell 0
    have pP10 : ∀ o, (w15.alloc o).cell? ⟨w1.heap.size, 0, none⟩ = some (.slice A1a n1a c1a) := fun o => keepA qP10
    have rP10 : w1.heap.size < w15.heap.size := bxP1.lt
    have qP11 : w15.cell? ⟨w1.heap.size, 1, none⟩ = some (.slice A1b n1b c1b) := bxP1.cell 1
    have pP11 : ∀ o, (w15.alloc o).cell? ⟨w1.heap.size, 1, none⟩ = some (.slice A1b n1b c1b) := fun o => keepA qP11
    have rP11 : w1.heap.size < w15.heap.size := bxP1.lt
    have qP12 : w15.cell? ⟨w1.heap.size, 2, none⟩ = some (.slice A1c n1c c1c) := bxP1.cell 2
    have pP12 : ∀ o, (w15.alloc o).cell? ⟨w1.heap.size, 2, none⟩ = some (.slice A1c n1c c1c) := fun o => keepA qP12
    have rP12 : w1.heap.size < w15.heap.size := bxP1.lt
    have qr0 : w15.cell? ⟨br, 0, none⟩ = some (.slice Ara (joinG z0 z1).1.length cra) := bxr.cell 0
    have pr0 : ∀ o, (w15.alloc o).cell? ⟨br, 0, none⟩ = some (.slice Ara (joinG z0 z1).1.length cra) := fun o => keepA qr0
    have rr0 : br < w15.heap.size := bxr.lt
    have qr1 : w15.cell? ⟨br, 1, none⟩ = some (.slice Arb (joinG z0 z1).2.1.length crb) := bxr.cell 1
    have pr1 : ∀ o, (w15.alloc o).cell? ⟨br, 1, none⟩ = some (.slice Arb (joinG z0 z1).2.1.length crb) := fun o => keepA qr1
    have rr1 : br < w15.heap.size := bxr.lt
    have qr2 : w15.cell? ⟨br, 2, none⟩ = some (.slice Arc (joinG z0 z1).2.2.length crc) := bxr.cell 2
    have pr2 : ∀ o, (w15.alloc o).cell? ⟨br, 2, none⟩ = some (.slice Arc (joinG z0 z1).2.2.length crc) := fun o => keepA qr2
    have rr2 : br < w15.heap.size := bxr.lt
    have qx00 : w15.cell? ⟨w9.heap.size, 0, none⟩ = some (.slice Ax0a (z0).1.length cx0a) := bxx0.cell 0
    have px00 : ∀ o, (w15.alloc o).cell? ⟨w9.heap.size, 0, none⟩ = some (.slice Ax0a (z0).1.length cx0a) := fun o => keepA qx00
    have rx00 : w9.heap.size < w15.heap.size := bxx0.lt
    have qx01 : w15.cell? ⟨w9.heap.size, 1, none⟩ = some (.slice Ax0b (z0).2.1.length cx0b) := bxx0.cell 1
    have px01 : ∀ o, (w15.alloc o).cell? ⟨w9.heap.size, 1, none⟩ = some (.slice Ax0b (z0).2.1.length cx0b) := fun o => keepA qx01
    have rx01 : w9.heap.size < w15.heap.size := bxx0.lt
    have qx02 : w15.cell? ⟨w9.heap.size, 2, none⟩ = some (.slice Ax0c (z0).2.2.length cx0c) := bxx0.cell 2
    have px02 : ∀ o, (w15.alloc o).cell? ⟨w9.heap.size, 2, none⟩ = some (.slice Ax0c (z0).2.2.length cx0c) := fun o => keepA qx02
    have rx02 : w9.heap.size < w15.heap.size := bxx0.lt
    have qx10 : w15.cell? ⟨w11.heap.size, 0, none⟩ = some (.slice Ax1a (z1).1.length cx1a) := bxx1.cell 0
    have px10 : ∀ o, (w15.alloc o).cell? ⟨w11.heap.size, 0, none⟩ = some (.slice Ax1a (z1).1.length cx1a) := fun o => keepA qx10
    have rx10 : w11.heap.size < w15.heap.size := bxx1.lt
    have qx11 : w15.cell? ⟨w11.heap.size, 1, none⟩ = some (.slice Ax1b (z1).2.1.length cx1b) := bxx1.cell 1
    have px11 : ∀ o, (w15.alloc o).cell? ⟨w11.heap.size, 1, none⟩ = some (.slice Ax1b (z1).2.1.length cx1b) := fun o => keepA qx11
    have rx11 : w11.heap.size < w15.heap.size := bxx1.lt
    have qx12 : w15.cell? ⟨w11.heap.size, 2, none⟩ = some (.slice Ax1c (z1).2.2.length cx1c) := bxx1.cell 2
    have px12 : ∀ o, (w15.alloc o).cell? ⟨w11.heap.size, 2, none⟩ = some (.slice Ax1c (z1).2.2.length cx1c) := fun o => keepA qx12
    have rx12 : w11.heap.size < w15.heap.size := bxx1.lt
    have qg0 : w15.cell? ⟨w13.heap.size, 0, none⟩ = some (.slice Aga (joinG z0 z1).1.length cga) := bxg.cell 0
    have pg0 : ∀ o, (w15.alloc o).cell? ⟨w13.heap.size, 0, none⟩ = some (.slice Aga (joinG z0 z1).1.length cga) := fun o => keepA qg0
    have rg0 : w13.heap.size < w15.heap.size := bxg.lt
    have qg1 : w15.cell? ⟨w13.heap.size, 1, none⟩ = some (.slice Agb (joinG z0 z1).2.1.length cgb) := bxg.cell 1
    have pg1 : ∀ o, (w15.alloc o).cell? ⟨w13.heap.size, 1, none⟩ = some (.slice Agb (joinG z0 z1).2.1.length cgb) := fun o => keepA qg1
    have rg1 : w13.heap.size < w15.heap.size := bxg.lt
    have qg2 : w15.cell? ⟨w13.heap.size, 2, none⟩ = some (.slice Agc (joinG z0 z1).2.2.length cgc) := bxg.cell 2
    have pg2 : ∀ o, (w15.alloc o).cell? ⟨w13.heap.size, 2, none⟩ = some (.slice Agc (joinG z0 z1).2.2.length cgc) := fun o => keepA qg2
    have rg2 : w13.heap.size < w15.heap.size := bxg.lt
    go_wp2_with fail
    clear qP00 pP00 rP00 qP01 pP01 rP01 qP02 pP02 rP02 qP10 pP10 rP10 qP11 pP11 rP11 qP12 pP12 rP12 qr0 pr0 rr0 qr1 pr1 rr1 qr2 pr2 rr2 qx00 px00 rx00 qx01 px01 rx01 qx02 px02 rx02 qx10 px10 rx10 qx11 px11 rx11 qx12 px12 rx12 qg0 pg0 rg0 qg1 pg1 rg1 qg2 pg2 rg2
    have qP00 : w15.cell? ⟨w.heap.size, 0, none⟩ = some (.slice A0a n0a c0a) := bxP0.cell 0
    have qP01 : w15.cell? ⟨w.heap.size, 1, none⟩ = some (.slice A0b n0b c0b) := bxP0.cell 1
    have qP02 : w15.cell? ⟨w.heap.size, 2, none⟩ = some (.slice A0c n0c c0c) := bxP0.cell 2
    have rP0 : w.heap.size < w15.heap.size := bxP0.lt
    have qP10 : w15.cell? ⟨w1.heap.size, 0, none⟩ = some (.slice A1a n1a c1a) := bxP1.cell 0
    have qP11 : w15.cell? ⟨w1.heap.size, 1, none⟩ = some (.slice A1b n1b c1b) := bxP1.cell 1
    have qP12 : w15.cell? ⟨w1.heap.size, 2, none⟩ = some (.slice A1c n1c c1c) := bxP1.cell 2
    have rP1 : w1.heap.size < w15.heap.size := bxP1.lt
    have qr0 : w15.cell? ⟨br, 0, none⟩ = some (.slice Ara (joinG z0 z1).1.length cra) := bxr.cell 0
    have qr1 : w15.cell? ⟨br, 1, none⟩ = some (.slice Arb (joinG z0 z1).2.1.length crb) := bxr.cell 1
    have qr2 : w15.cell? ⟨br, 2, none⟩ = some (.slice Arc (joinG z0 z1).2.2.length crc) := bxr.cell 2
    have rr : br < w15.heap.size := bxr.lt
    have qx00 : w15.cell? ⟨w9.heap.size, 0, none⟩ = some (.slice Ax0a (z0).1.length cx0a) := bxx0.cell 0
    have qx01 : w15.cell? ⟨w9.heap.size, 1, none⟩ = some (.slice Ax0b (z0).2.1.length cx0b) := bxx0.cell 1
    have qx02 : w15.cell? ⟨w9.heap.size, 2, none⟩ = some (.slice Ax0c (z0).2.2.length cx0c) := bxx0.cell 2
    have rx0 : w9.heap.size < w15.heap.size := bxx0.lt
    have qx10 : w15.cell? ⟨w11.heap.size, 0, none⟩ = some (.slice Ax1a (z1).1.length cx1a) := bxx1.cell 0
    have qx11 : w15.cell? ⟨w11.heap.size, 1, none⟩ = some (.slice Ax1b (z1).2.1.length cx1b) := bxx1.cell 1
    have qx12 : w15.cell? ⟨w11.heap.size, 2, none⟩ = some (.slice Ax1c (z1).2.2.length cx1c) := bxx1.cell 2
    have rx1 : w11.heap.size < w15.heap.size := bxx1.lt
    have qg0 : w15.cell? ⟨w13.heap.size, 0, none⟩ = some (.slice Aga (joinG z0 z1).1.length cga) := bxg.cell 0
    have qg1 : w15.cell? ⟨w13.heap.size, 1, none⟩ = some (.slice Agb (joinG z0 z1).2.1.length cgb) := bxg.cell 1
    have qg2 : w15.cell? ⟨w13.heap.size, 2, none⟩ = some (.slice Agc (joinG z0 z1).2.2.length cgc) := bxg.cell 2
    have rg : w13.heap.size < w15.heap.size := bxg.lt
    go_region_held3 (fun w' => w'.cell? ⟨w.heap.size, 0, none⟩ = some (.slice A0a n0a c0a) ∧ w'.cell? ⟨w.heap.size, 1, none⟩ = some (.slice A0b n0b c0b) ∧ w'.cell? ⟨w.heap.size, 2, none⟩ = some (.slice A0c n0c c0c) ∧ w'.cell? ⟨w1.heap.size, 0, none⟩ = some (.slice A1a n1a c1a) ∧ w'.cell? ⟨w1.heap.size, 1, none⟩ = some (.slice A1b n1b c1b) ∧ w'.cell? ⟨w1.heap.size, 2, none⟩ = some (.slice A1c n1c c1c) ∧ w'.cell? ⟨br, 0, none⟩ = some (.slice Ara (joinG z0 z1).1.length cra) ∧ w'.cell? ⟨br, 1, none⟩ = some (.slice Arb (joinG z0 z1).2.1.length crb) ∧ w'.cell? ⟨br, 2, none⟩ = some (.slice Arc (joinG z0 z1).2.2.length crc) ∧ w'.cell? ⟨w9.heap.size, 0, none⟩ = some (.slice Ax0a (z0).1.length cx0a) ∧ w'.cell? ⟨w9.heap.size, 1, none⟩ = some (.slice Ax0b (z0).2.1.length cx0b) ∧ w'.cell? ⟨w9.heap.size, 2, none⟩ = some (.slice Ax0c (z0).2.2.length cx0c) ∧ w'.cell? ⟨w11.heap.size, 0, none⟩ = some (.slice Ax1a (z1).1.length cx1a) ∧ w'.cell? ⟨w11.heap.size, 1, none⟩ = some (.slice Ax1b (z1).2.1.length cx1b) ∧ w'.cell? ⟨w11.heap.size, 2, none⟩ = some (.slice Ax1c (z1).2.2.length cx1c) ∧ w'.cell? ⟨w13.heap.size, 0, none⟩ = some (.slice Aga (joinG z0 z1).1.length cga) ∧ w'.cell? ⟨w13.heap.size, 1, none⟩ = some (.slice Agb (joinG z0 z1).2.1.length cgb) ∧ w'.cell? ⟨w13.heap.size, 2, none⟩ = some (.slice Agc (joinG z0 z1).2.2.length cgc))
      (refine ⟨?_, ?_, ?_, ?_, ?_, ?_, ?_, ?_, ?_, ?_, ?_, ?_, ?_, ?_, ?_, ?_, ?_, ?_⟩ <;> repeat (first | with_reducible assumption | with_reducible refine keepD ?_ | with_reducible refine keepA ?_))
      (first
        | (go_at_call 27
           refine (toParity _ _ _ _ _ _ (Nat.le_refl _) (ha0.keep (keeps_below (Below.drew hww15))) hm0).mono ?_; rintro e w16 ⟨vt0a, vt0b, vt0c, rfl, ot0, hbw16⟩
           replace hbw16 := below_undrew hbw16
           obtain ⟨At0a, ct0a, At0b, ct0b, At0c, ct0c, rfl, rfl, rfl⟩ := ot0.form
           have zw16 := hbw16.size
           have hww16 := below_then hbw16 hww15.size hww15
           replace fr := fr.step hbw16
           replace fx0 := fx0.step hbw16
           replace fx1 := fx1.step hbw16
           replace fg := fg.step hbw16
           replace bxP0 := bxP0.below hbw16 bxP0.lt
           replace bxP1 := bxP1.below hbw16 bxP1.lt
           replace bxr := bxr.below hbw16 bxr.lt
           replace bxx0 := bxx0.below hbw16 bxx0.lt
           replace bxx1 := bxx1.below hbw16 bxx1.lt
           replace bxg := bxg.below hbw16 bxg.lt
           have ft0 := Far.refl w15.heap.size w16
           have qP00 : w16.cell? ⟨w.heap.size, 0, none⟩ = some (.slice A0a n0a c0a) := bxP0.cell 0
           have qP01 : w16.cell? ⟨w.heap.size, 1, none⟩ = some (.slice A0b n0b c0b) := bxP0.cell 1
           have qP02 : w16.cell? ⟨w.heap.size, 2, none⟩ = some (.slice A0c n0c c0c) := bxP0.cell 2
           have rP0 : w.heap.size < w16.heap.size := bxP0.lt
           have qP10 : w16.cell? ⟨w1.heap.size, 0, none⟩ = some (.slice A1a n1a c1a) := bxP1.cell 0
           have qP11 : w16.cell? ⟨w1.heap.size, 1, none⟩ = some (.slice A1b n1b c1b) := bxP1.cell 1
           have qP12 : w16.cell? ⟨w1.heap.size, 2, none⟩ = some (.slice A1c n1c c1c) := bxP1.cell 2
           have rP1 : w1.heap.size < w16.heap.size := bxP1.lt
           have qr0 : w16.cell? ⟨br, 0, none⟩ = some (.slice Ara (joinG z0 z1).1.length cra) := bxr.cell 0
           have qr1 : w16.cell? ⟨br, 1, none⟩ = some (.slice Arb (joinG z0 z1).2.1.length crb) := bxr.cell 1
           have qr2 : w16.cell? ⟨br, 2, none⟩ = some (.slice Arc (joinG z0 z1).2.2.length crc) := bxr.cell 2
           have rr : br < w16.heap.size := bxr.lt
           have qx00 : w16.cell? ⟨w9.heap.size, 0, none⟩ = some (.slice Ax0a (z0).1.length cx0a) := bxx0.cell 0
           have qx01 : w16.cell? ⟨w9.heap.size, 1, none⟩ = some (.slice Ax0b (z0).2.1.length cx0b) := bxx0.cell 1
           have qx02 : w16.cell? ⟨w9.heap.size, 2, none⟩ = some (.slice Ax0c (z0).2.2.length cx0c) := bxx0.cell 2
           have rx0 : w9.heap.size < w16.heap.size := bxx0.lt
           have qx10 : w16.cell? ⟨w11.heap.size, 0, none⟩ = some (.slice Ax1a (z1).1.length cx1a) := bxx1.cell 0
           have qx11 : w16.cell? ⟨w11.heap.size, 1, none⟩ = some (.slice Ax1b (z1).2.1.length cx1b) := bxx1.cell 1
           have qx12 : w16.cell? ⟨w11.heap.size, 2, none⟩ = some (.slice Ax1c (z1).2.2.length cx1c) := bxx1.cell 2
           have rx1 : w11.heap.size < w16.heap.size := bxx1.lt
           have qg0 : w16.cell? ⟨w13.heap.size, 0, none⟩ = some (.slice Aga (joinG z0 z1).1.length cga) := bxg.cell 0
           have qg1 : w16.cell? ⟨w13.heap.size, 1, none⟩ = some (.slice Agb (joinG z0 z1).2.1.length cgb) := bxg.cell 1
           have qg2 : w16.cell? ⟨w13.heap.size, 2, none⟩ = some (.slice Agc (joinG z0 z1).2.2.length cgc) := bxg.cell 2
           have rg : w13.heap.size < w16.heap.size := bxg.lt)
        | (go_at_call 29
           refine (eqParity _ _ _ _ _ _ _ _ _ _ (Nat.le_refl _) (ox0.hold fx0).reads (ot0.hold ft0).reads).mono ?_; rintro e w17 ⟨rfl, hbw17⟩
           have zw17 := hbw17.size
           have hww17 := below_then hbw17 hww16.size hww16
           replace fr := fr.step hbw17
           replace fx0 := fx0.step hbw17
           replace fx1 := fx1.step hbw17
           replace fg := fg.step hbw17
           replace ft0 := ft0.step hbw17
           replace bxP0 := bxP0.below hbw17 bxP0.lt
           replace bxP1 := bxP1.below hbw17 bxP1.lt
           replace bxr := bxr.below hbw17 bxr.lt
           replace bxx0 := bxx0.below hbw17 bxx0.lt
           replace bxx1 := bxx1.below hbw17 bxx1.lt
           replace bxg := bxg.below hbw17 bxg.lt
           rw [eqPar_self]
           have qP00 : w17.cell? ⟨w.heap.size, 0, none⟩ = some (.slice A0a n0a c0a) := bxP0.cell 0
           have qP01 : w17.cell? ⟨w.heap.size, 1, none⟩ = some (.slice A0b n0b c0b) := bxP0.cell 1
           have qP02 : w17.cell? ⟨w.heap.size, 2, none⟩ = some (.slice A0c n0c c0c) := bxP0.cell 2
           have rP0 : w.heap.size < w17.heap.size := bxP0.lt
           have qP10 : w17.cell? ⟨w1.heap.size, 0, none⟩ = some (.slice A1a n1a c1a) := bxP1.cell 0
           have qP11 : w17.cell? ⟨w1.heap.size, 1, none⟩ = some (.slice A1b n1b c1b) := bxP1.cell 1
           have qP12 : w17.cell? ⟨w1.heap.size, 2, none⟩ = some (.slice A1c n1c c1c) := bxP1.cell 2
           have rP1 : w1.heap.size < w17.heap.size := bxP1.lt
           have qr0 : w17.cell? ⟨br, 0, none⟩ = some (.slice Ara (joinG z0 z1).1.length cra) := bxr.cell 0
           have qr1 : w17.cell? ⟨br, 1, none⟩ = some (.slice Arb (joinG z0 z1).2.1.length crb) := bxr.cell 1
           have qr2 : w17.cell? ⟨br, 2, none⟩ = some (.slice Arc (joinG z0 z1).2.2.length crc) := bxr.cell 2
           have rr : br < w17.heap.size := bxr.lt
           have qx00 : w17.cell? ⟨w9.heap.size, 0, none⟩ = some (.slice Ax0a (z0).1.length cx0a) := bxx0.cell 0
           have qx01 : w17.cell? ⟨w9.heap.size, 1, none⟩ = some (.slice Ax0b (z0).2.1.length cx0b) := bxx0.cell 1
           have qx02 : w17.cell? ⟨w9.heap.size, 2, none⟩ = some (.slice Ax0c (z0).2.2.length cx0c) := bxx0.cell 2
           have rx0 : w9.heap.size < w17.heap.size := bxx0.lt
           have qx10 : w17.cell? ⟨w11.heap.size, 0, none⟩ = some (.slice Ax1a (z1).1.length cx1a) := bxx1.cell 0
           have qx11 : w17.cell? ⟨w11.heap.size, 1, none⟩ = some (.slice Ax1b (z1).2.1.length cx1b) := bxx1.cell 1
           have qx12 : w17.cell? ⟨w11.heap.size, 2, none⟩ = some (.slice Ax1c (z1).2.2.length cx1c) := bxx1.cell 2
           have rx1 : w11.heap.size < w17.heap.size := bxx1.lt
           have qg0 : w17.cell? ⟨w13.heap.size, 0, none⟩ = some (.slice Aga (joinG z0 z1).1.length cga) := bxg.cell 0
           have qg1 : w17.cell? ⟨w13.heap.size, 1, none⟩ = some (.slice Agb (joinG z0 z1).2.1.length cgb) := bxg.cell 1
           have qg2 : w17.cell? ⟨w13.heap.size, 2, none⟩ = some (.slice Agc (joinG z0 z1).2.2.length cgc) := bxg.cell 2
           have rg : w13.heap.size < w17.heap.size := bxg.lt))
    clear qP00 qP01 qP02 rP0 qP10 qP11 qP12 rP1 qr0 qr1 qr2 rr qx00 qx01 qx02 rx0 qx10 qx11 qx12 rx1 qg0 qg1 qg2 rg
    clear ot0 ft0
    have qP00 : w17.cell? ⟨w.heap.size, 0, none⟩ = some (.slice A0a n0a c0a) := bxP0.cell 0
    have pP00 : ∀ o, (w17.alloc o).cell? ⟨w.heap.size, 0, none⟩ = some (.slice A0a n0a c0a) := fun o => keepA qP00
    have rP00 : w.heap.size < w17.heap.size := bxP0.lt
    have qP01 : w17.cell? ⟨w.heap.size, 1, none⟩ = some (.slice A0b n0b c0b) := bxP0.cell 1
    have pP01 : ∀ o, (w17.alloc o).cell? ⟨w.heap.size, 1, none⟩ = some (.slice A0b n0b c0b) := fun o => keepA qP01
    have rP01 : w.heap.size < w17.heap.size := bxP0.lt
    have qP02 : w17.cell? ⟨w.heap.size, 2, none⟩ = some (.slice A0c n0c c0c) := bxP0.cell 2
    have pP02 : ∀ o, (w17.alloc o).cell? ⟨w.heap.size, 2, none⟩ = some (.slice A0c n0c c0c) := fun o => keepA qP02
    have rP02 : w.heap.size < w17.heap.size := bxP0.lt
    have qP10 : w17.cell? ⟨w1.heap.size, 0, none⟩ = some (.slice A1a n1a c1a) := bxP1.cell 0
    have pP10 : ∀ o, (w17.alloc o).cell? ⟨w1.heap.size, 0, none⟩ = some (.slice A1a n1a c1a) := fun o => keepA qP10
    have rP10 : w1.heap.size < w17.heap.size := bxP1.lt
    have qP11 : w17.cell? ⟨w1.heap.size, 1, none⟩ = some (.slice A1b n1b c1b) := bxP1.cell 1
    have pP11 : ∀ o, (w17.alloc o).cell? ⟨w1.heap.size, 1, none⟩ = some (.slice A1b n1b c1b) := fun o => keepA qP11
    have rP11 : w1.heap.size < w17.heap.size := bxP1.lt
    have qP12 : w17.cell? ⟨w1.heap.size, 2, none⟩ = some (.slice A1c n1c c1c) := bxP1.cell 2
    have pP12 : ∀ o, (w17.alloc o).cell? ⟨w1.heap.size, 2, none⟩ = some (.slice A1c n1c c1c) := fun o => keepA qP12
    have rP12 : w1.heap.size < w17.heap.size := bxP1.lt
    have qr0 : w17.cell? ⟨br, 0, none⟩ = some (.slice Ara (joinG z0 z1).1.length cra) := bxr.cell 0
    have pr0 : ∀ o, (w17.alloc o).cell? ⟨br, 0, none⟩ = some (.slice Ara (joinG z0 z1).1.length cra) := fun o => keepA qr0
    have rr0 : br < w17.heap.size := bxr.lt
    have qr1 : w17.cell? ⟨br, 1, none⟩ = some (.slice Arb (joinG z0 z1).2.1.length crb) := bxr.cell 1
    have pr1 : ∀ o, (w17.alloc o).cell? ⟨br, 1, none⟩ = some (.slice Arb (joinG z0 z1).2.1.length crb) := fun o => keepA qr1
    have rr1 : br < w17.heap.size := bxr.lt
    have qr2 : w17.cell? ⟨br, 2, none⟩ = some (.slice Arc (joinG z0 z1).2.2.length crc) := bxr.cell 2
    have pr2 : ∀ o, (w17.alloc o).cell? ⟨br, 2, none⟩ = some (.slice Arc (joinG z0 z1).2.2.length crc) := fun o => keepA qr2
    have rr2 : br < w17.heap.size := bxr.lt
    have qx00 : w17.cell? ⟨w9.heap.size, 0, none⟩ = some (.slice Ax0a (z0).1.length cx0a) := bxx0.cell 0
    have px00 : ∀ o, (w17.alloc o).cell? ⟨w9.heap.size, 0, none⟩ = some (.slice Ax0a (z0).1.length cx0a) := fun o => keepA qx00
    have rx00 : w9.heap.size < w17.heap.size := bxx0.lt
    have qx01 : w17.cell? ⟨w9.heap.size, 1, none⟩ = some (.slice Ax0b (z0).2.1.length cx0b) := bxx0.cell 1
    have px01 : ∀ o, (w17.alloc o).cell? ⟨w9.heap.size, 1, none⟩ = some (.slice Ax0b (z0).2.1.length cx0b) := fun o => keepA qx01
    have rx01 : w9.heap.size < w17.heap.size := bxx0.lt
    have qx02 : w17.cell? ⟨w9.heap.size, 2, none⟩ = some (.slice Ax0c (z0).2.2.length cx0c) := bxx0.cell 2
    have px02 : ∀ o, (w17.alloc o).cell? ⟨w9.heap.size, 2, none⟩ = some (.slice Ax0c (z0).2.2.length cx0c) := fun o => keepA qx02
    have rx02 : w9.heap.size < w17.heap.size := bxx0.lt
    have qx10 : w17.cell? ⟨w11.heap.size, 0, none⟩ = some (.slice Ax1a (z1).1.length cx1a) := bxx1.cell 0
    have px10 : ∀ o, (w17.alloc o).cell? ⟨w11.heap.size, 0, none⟩ = some (.slice Ax1a (z1).1.length cx1a) := fun o => keepA qx10
    have rx10 : w11.heap.size < w17.heap.size := bxx1.lt
    have qx11 : w17.cell? ⟨w11.heap.size, 1, none⟩ = some (.slice Ax1b (z1).2.1.length cx1b) := bxx1.cell 1
    have px11 : ∀ o, (w17.alloc o).cell? ⟨w11.heap.size, 1, none⟩ = some (.slice Ax1b (z1).2.1.length cx1b) := fun o => keepA qx11
    have rx11 : w11.heap.size < w17.heap.size := bxx1.lt
    have qx12 : w17.cell? ⟨w11.heap.size, 2, none⟩ = some (.slice Ax1c (z1).2.2.length cx1c) := bxx1.cell 2
    have px12 : ∀ o, (w17.alloc o).cell? ⟨w11.heap.size, 2, none⟩ = some (.slice Ax1c (z1).2.2.length cx1c) := fun o => keepA qx12
    have rx12 : w11.heap.size < w17.heap.size := bxx1.lt
    have qg0 : w17.cell? ⟨w13.heap.size, 0, none⟩ = some (.slice Aga (joinG z0 z1).1.length cga) := bxg.cell 0
    have pg0 : ∀ o, (w17.alloc o).cell? ⟨w13.heap.size, 0, none⟩ = some (.slice Aga (joinG z0 z1).1.length cga) := fun o => keepA qg0
    have rg0 : w13.heap.size < w17.heap.size := bxg.lt
    have qg1 : w17.cell? ⟨w13.heap.size, 1, none⟩ = some (.slice Agb (joinG z0 z1).2.1.length cgb) := bxg.cell 1
    have pg1 : ∀ o, (w17.alloc o).cell? ⟨w13.heap.size, 1, none⟩ = some (.slice Agb (joinG z0 z1).2.1.length cgb) := fun o => keepA qg1
    have rg1 : w13.heap.size < w17.heap.size := bxg.lt
    have qg2 : w17.cell? ⟨w13.heap.size, 2, none⟩ = some (.slice Agc (joinG z0 z1).2.2.length cgc) := bxg.cell 2
    have pg2 : ∀ o, (w17.alloc o).cell? ⟨w13.heap.size, 2, none⟩ = some (.slice Agc (joinG z0 z1).2.2.length cgc) := fun o => keepA qg2
    have rg2 : w13.heap.size < w17.heap.size := bxg.lt
    go_wp2_with fail
    clear qP00 pP00 rP00 qP01 pP01 rP01 qP02 pP02 rP02 qP10 pP10 rP10 qP11 pP11 rP11 qP12 pP12 rP12 qr0 pr0 rr0 qr1 pr1 rr1 qr2 pr2 rr2 qx00 px00 rx00 qx01 px01 rx01 qx02 px02 rx02 qx10 px10 rx10 qx11 px11 rx11 qx12 px12 rx12 qg0 pg0 rg0 qg1 pg1 rg1 qg2 pg2 rg2
    have qP00 : w17.cell? ⟨w.heap.size, 0, none⟩ = some (.slice A0a n0a c0a) := bxP0.cell 0
    have qP01 : w17.cell? ⟨w.heap.size, 1, none⟩ = some (.slice A0b n0b c0b) := bxP0.cell 1
    have qP02 : w17.cell? ⟨w.heap.size, 2, none⟩ = some (.slice A0c n0c c0c) := bxP0.cell 2
    have rP0 : w.heap.size < w17.heap.size := bxP0.lt
    have qP10 : w17.cell? ⟨w1.heap.size, 0, none⟩ = some (.slice A1a n1a c1a) := bxP1.cell 0
    have qP11 : w17.cell? ⟨w1.heap.size, 1, none⟩ = some (.slice A1b n1b c1b) := bxP1.cell 1
    have qP12 : w17.cell? ⟨w1.heap.size, 2, none⟩ = some (.slice A1c n1c c1c) := bxP1.cell 2
    have rP1 : w1.heap.size < w17.heap.size := bxP1.lt
    have qr0 : w17.cell? ⟨br, 0, none⟩ = some (.slice Ara (joinG z0 z1).1.length cra) := bxr.cell 0
    have qr1 : w17.cell? ⟨br, 1, none⟩ = some (.slice Arb (joinG z0 z1).2.1.length crb) := bxr.cell 1
    have qr2 : w17.cell? ⟨br, 2, none⟩ = some (.slice Arc (joinG z0 z1).2.2.length crc) := bxr.cell 2
    have rr : br < w17.heap.size := bxr.lt
    have qx00 : w17.cell? ⟨w9.heap.size, 0, none⟩ = some (.slice Ax0a (z0).1.length cx0a) := bxx0.cell 0
    have qx01 : w17.cell? ⟨w9.heap.size, 1, none⟩ = some (.slice Ax0b (z0).2.1.length cx0b) := bxx0.cell 1
    have qx02 : w17.cell? ⟨w9.heap.size, 2, none⟩ = some (.slice Ax0c (z0).2.2.length cx0c) := bxx0.cell 2
    have rx0 : w9.heap.size < w17.heap.size := bxx0.lt
    have qx10 : w17.cell? ⟨w11.heap.size, 0, none⟩ = some (.slice Ax1a (z1).1.length cx1a) := bxx1.cell 0
    have qx11 : w17.cell? ⟨w11.heap.size, 1, none⟩ = some (.slice Ax1b (z1).2.1.length cx1b) := bxx1.cell 1
    have qx12 : w17.cell? ⟨w11.heap.size, 2, none⟩ = some (.slice Ax1c (z1).2.2.length cx1c) := bxx1.cell 2
    have rx1 : w11.heap.size < w17.heap.size := bxx1.lt
    have qg0 : w17.cell? ⟨w13.heap.size, 0, none⟩ = some (.slice Aga (joinG z0 z1).1.length cga) := bxg.cell 0
    have qg1 : w17.cell? ⟨w13.heap.size, 1, none⟩ = some (.slice Agb (joinG z0 z1).2.1.length cgb) := bxg.cell 1
    have qg2 : w17.cell? ⟨w13.heap.size, 2, none⟩ = some (.slice Agc (joinG z0 z1).2.2.length cgc) := bxg.cell 2
    have rg : w13.heap.size < w17.heap.size := bxg.lt
    go_region_held3 (fun w' => w'.cell? ⟨w.heap.size, 0, none⟩ = some (.slice A0a n0a c0a) ∧ w'.cell? ⟨w.heap.size, 1, none⟩ = some (.slice A0b n0b c0b) ∧ w'.cell? ⟨w.heap.size, 2, none⟩ = some (.slice A0c n0c c0c) ∧ w'.cell? ⟨w1.heap.size, 0, none⟩ = some (.slice A1a n1a c1a) ∧ w'.cell? ⟨w1.heap.size, 1, none⟩ = some (.slice A1b n1b c1b) ∧ w'.cell? ⟨w1.heap.size, 2, none⟩ = some (.slice A1c n1c c1c) ∧ w'.cell? ⟨br, 0, none⟩ = some (.slice Ara (joinG z0 z1).1.length cra) ∧ w'.cell? ⟨br, 1, none⟩ = some (.slice Arb (joinG z0 z1).2.1.length crb) ∧ w'.cell? ⟨br, 2, none⟩ = some (.slice Arc (joinG z0 z1).2.2.length crc) ∧ w'.cell? ⟨w9.heap.size, 0, none⟩ = some (.slice Ax0a (z0).1.length cx0a) ∧ w'.cell? ⟨w9.heap.size, 1, none⟩ = some (.slice Ax0b (z0).2.1.length cx0b) ∧ w'.cell? ⟨w9.heap.size, 2, none⟩ = some (.slice Ax0c (z0).2.2.length cx0c) ∧ w'.cell? ⟨w11.heap.size, 0, none⟩ = some (.slice Ax1a (z1).1.length cx1a) ∧ w'.cell? ⟨w11.heap.size, 1, none⟩ = some (.slice Ax1b (z1).2.1.length cx1b) ∧ w'.cell? ⟨w11.heap.size, 2, none⟩ = some (.slice Ax1c (z1).2.2.length cx1c) ∧ w'.cell? ⟨w13.heap.size, 0, none⟩ = some (.slice Aga (joinG z0 z1).1.length cga) ∧ w'.cell? ⟨w13.heap.size, 1, none⟩ = some (.slice Agb (joinG z0 z1).2.1.length cgb) ∧ w'.cell? ⟨w13.heap.size, 2, none⟩ = some (.slice Agc (joinG z0 z1).2.2.length cgc))
      (refine ⟨?_, ?_, ?_, ?_, ?_, ?_, ?_, ?_, ?_, ?_, ?_, ?_, ?_, ?_, ?_, ?_, ?_, ?_⟩ <;> repeat (first | with_reducible assumption | with_reducible refine keepD ?_ | with_reducible refine keepA ?_))
      (first
        | (go_at_call 27
           refine (toParity _ _ _ _ _ _ (Nat.le_refl _) (ha1.keep (keeps_below (Below.drew hww17))) hm1).mono ?_; rintro e w18 ⟨vt1a, vt1b, vt1c, rfl, ot1, hbw18⟩
           replace hbw18 := below_undrew hbw18
           obtain ⟨At1a, ct1a, At1b, ct1b, At1c, ct1c, rfl, rfl, rfl⟩ := ot1.form
           have zw18 := hbw18.size
           have hww18 := below_then hbw18 hww17.size hww17
           replace fr := fr.step hbw18
           replace fx0 := fx0.step hbw18
           replace fx1 := fx1.step hbw18
           replace fg := fg.step hbw18
           replace bxP0 := bxP0.below hbw18 bxP0.lt
           replace bxP1 := bxP1.below hbw18 bxP1.lt
           replace bxr := bxr.below hbw18 bxr.lt
           replace bxx0 := bxx0.below hbw18 bxx0.lt
           replace bxx1 := bxx1.below hbw18 bxx1.lt
           replace bxg := bxg.below hbw18 bxg.lt
           have ft1 := Far.refl w17.heap.size w18
           have qP00 : w18.cell? ⟨w.heap.size, 0, none⟩ = some (.slice A0a n0a c0a) := bxP0.cell 0
           have qP01 : w18.cell? ⟨w.heap.size, 1, none⟩ = some (.slice A0b n0b c0b) := bxP0.cell 1
           have qP02 : w18.cell? ⟨w.heap.size, 2, none⟩ = some (.slice A0c n0c c0c) := bxP0.cell 2
           have rP0 : w.heap.size < w18.heap.size := bxP0.lt
           have qP10 : w18.cell? ⟨w1.heap.size, 0, none⟩ = some (.slice A1a n1a c1a) := bxP1.cell 0
           have qP11 : w18.cell? ⟨w1.heap.size, 1, none⟩ = some (.slice A1b n1b c1b) := bxP1.cell 1
           have qP12 : w18.cell? ⟨w1.heap.size, 2, none⟩ = some (.slice A1c n1c c1c) := bxP1.cell 2
           have rP1 : w1.heap.size < w18.heap.size := bxP1.lt
           have qr0 : w18.cell? ⟨br, 0, none⟩ = some (.slice Ara (joinG z0 z1).1.length cra) := bxr.cell 0
           have qr1 : w18.cell? ⟨br, 1, none⟩ = some (.slice Arb (joinG z0 z1).2.1.length crb) := bxr.cell 1
           have qr2 : w18.cell? ⟨br, 2, none⟩ = some (.slice Arc (joinG z0 z1).2.2.length crc) := bxr.cell 2
           have rr : br < w18.heap.size := bxr.lt
           have qx00 : w18.cell? ⟨w9.heap.size, 0, none⟩ = some (.slice Ax0a (z0).1.length cx0a) := bxx0.cell 0
           have qx01 : w18.cell? ⟨w9.heap.size, 1, none⟩ = some (.slice Ax0b (z0).2.1.length cx0b) := bxx0.cell 1
           have qx02 : w18.cell? ⟨w9.heap.size, 2, none⟩ = some (.slice Ax0c (z0).2.2.length cx0c) := bxx0.cell 2
           have rx0 : w9.heap.size < w18.heap.size := bxx0.lt
           have qx10 : w18.cell? ⟨w11.heap.size, 0, none⟩ = some (.slice Ax1a (z1).1.length cx1a) := bxx1.cell 0
           have qx11 : w18.cell? ⟨w11.heap.size, 1, none⟩ = some (.slice Ax1b (z1).2.1.length cx1b) := bxx1.cell 1
           have qx12 : w18.cell? ⟨w11.heap.size, 2, none⟩ = some (.slice Ax1c (z1).2.2.length cx1c) := bxx1.cell 2
           have rx1 : w11.heap.size < w18.heap.size := bxx1.lt
           have qg0 : w18.cell? ⟨w13.heap.size, 0, none⟩ = some (.slice Aga (joinG z0 z1).1.length cga) := bxg.cell 0
           have qg1 : w18.cell? ⟨w13.heap.size, 1, none⟩ = some (.slice Agb (joinG z0 z1).2.1.length cgb) := bxg.cell 1
           have qg2 : w18.cell? ⟨w13.heap.size, 2, none⟩ = some (.slice Agc (joinG z0 z1).2.2.length cgc) := bxg.cell 2
           have rg : w13.heap.size < w18.heap.size := bxg.lt)
        | (go_at_call 29
           refine (eqParity _ _ _ _ _ _ _ _ _ _ (Nat.le_refl _) (ox1.hold fx1).reads (ot1.hold ft1).reads).mono ?_; rintro e w19 ⟨rfl, hbw19⟩
           have zw19 := hbw19.size
           have hww19 := below_then hbw19 hww18.size hww18
           replace fr := fr.step hbw19
           replace fx0 := fx0.step hbw19
           replace fx1 := fx1.step hbw19
           replace fg := fg.step hbw19
           replace ft1 := ft1.step hbw19
           replace bxP0 := bxP0.below hbw19 bxP0.lt
           replace bxP1 := bxP1.below hbw19 bxP1.lt
           replace bxr := bxr.below hbw19 bxr.lt
           replace bxx0 := bxx0.below hbw19 bxx0.lt
           replace bxx1 := bxx1.below hbw19 bxx1.lt
           replace bxg := bxg.below hbw19 bxg.lt
           rw [eqPar_self]
           have qP00 : w19.cell? ⟨w.heap.size, 0, none⟩ = some (.slice A0a n0a c0a) := bxP0.cell 0
           have qP01 : w19.cell? ⟨w.heap.size, 1, none⟩ = some (.slice A0b n0b c0b) := bxP0.cell 1
           have qP02 : w19.cell? ⟨w.heap.size, 2, none⟩ = some (.slice A0c n0c c0c) := bxP0.cell 2
           have rP0 : w.heap.size < w19.heap.size := bxP0.lt
           have qP10 : w19.cell? ⟨w1.heap.size, 0, none⟩ = some (.slice A1a n1a c1a) := bxP1.cell 0
           have qP11 : w19.cell? ⟨w1.heap.size, 1, none⟩ = some (.slice A1b n1b c1b) := bxP1.cell 1
           have qP12 : w19.cell? ⟨w1.heap.size, 2, none⟩ = some (.slice A1c n1c c1c) := bxP1.cell 2
           have rP1 : w1.heap.size < w19.heap.size := bxP1.lt
           have qr0 : w19.cell? ⟨br, 0, none⟩ = some (.slice Ara (joinG z0 z1).1.length cra) := bxr.cell 0
           have qr1 : w19.cell? ⟨br, 1, none⟩ = some (.slice Arb (joinG z0 z1).2.1.length crb) := bxr.cell 1
           have qr2 : w19.cell? ⟨br, 2, none⟩ = some (.slice Arc (joinG z0 z1).2.2.length crc) := bxr.cell 2
           have rr : br < w19.heap.size := bxr.lt
           have qx00 : w19.cell? ⟨w9.heap.size, 0, none⟩ = some (.slice Ax0a (z0).1.length cx0a) := bxx0.cell 0
           have qx01 : w19.cell? ⟨w9.heap.size, 1, none⟩ = some (.slice Ax0b (z0).2.1.length cx0b) := bxx0.cell 1
           have qx02 : w19.cell? ⟨w9.heap.size, 2, none⟩ = some (.slice Ax0c (z0).2.2.length cx0c) := bxx0.cell 2
           have rx0 : w9.heap.size < w19.heap.size := bxx0.lt
           have qx10 : w19.cell? ⟨w11.heap.size, 0, none⟩ = some (.slice Ax1a (z1).1.length cx1a) := bxx1.cell 0
           have qx11 : w19.cell? ⟨w11.heap.size, 1, none⟩ = some (.slice Ax1b (z1).2.1.length cx1b) := bxx1.cell 1
           have qx12 : w19.cell? ⟨w11.heap.size, 2, none⟩ = some (.slice Ax1c (z1).2.2.length cx1c) := bxx1.cell 2
           have rx1 : w11.heap.size < w19.heap.size := bxx1.lt
           have qg0 : w19.cell? ⟨w13.heap.size, 0, none⟩ = some (.slice Aga (joinG z0 z1).1.length cga) := bxg.cell 0
           have qg1 : w19.cell? ⟨w13.heap.size, 1, none⟩ = some (.slice Agb (joinG z0 z1).2.1.length cgb) := bxg.cell 1
           have qg2 : w19.cell? ⟨w13.heap.size, 2, none⟩ = some (.slice Agc (joinG z0 z1).2.2.length cgc) := bxg.cell 2
           have rg : w13.heap.size < w19.heap.size := bxg.lt))
    clear qP00 qP01 qP02 rP0 qP10 qP11 qP12 rP1 qr0 qr1 qr2 rr qx00 qx01 qx02 rx0 qx10 qx11 qx12 rx1 qg0 qg1 qg2 rg
    clear ot1 ft1
    have qP00 : w19.cell? ⟨w.heap.size, 0, none⟩ = some (.slice A0a n0a c0a) := bxP0.cell 0
    have pP00 : ∀ o, (w19.alloc o).cell? ⟨w.heap.size, 0, none⟩ = some (.slice A0a n0a c0a) := fun o => keepA qP00
    have rP00 : w.heap.size < w19.heap.size := bxP0.lt
    have qP01 : w19.cell? ⟨w.heap.size, 1, none⟩ = some (.slice A0b n0b c0b) := bxP0.cell 1
    have pP01 : ∀ o, (w19.alloc o).cell? ⟨w.heap.size, 1, none⟩ = some (.slice A0b n0b c0b) := fun o => keepA qP01
    have rP01 : w.heap.size < w19.heap.size := bxP0.lt
    have qP02 : w19.cell? ⟨w.heap.size, 2, none⟩ = some (.slice A0c n0c c0c) := bxP0.cell 2
    have pP02 : ∀ o, (w19.alloc o).cell? ⟨w.heap.size, 2, none⟩ = some (.slice A0c n0c c0c) := fun o => keepA qP02
    have rP02 : w.heap.size < w19.heap.size := bxP0.lt
    have qP10 : w19.cell? ⟨w1.heap.size, 0, none⟩ = some (.slice A1a n1a c1a) := bxP1.cell 0
    have pP10 : ∀ o, (w19.alloc o).cell? ⟨w1.heap.size, 0, none⟩ = some (.slice A1a n1a c1a) := fun o => keepA qP10
    have rP10 : w1.heap.size < w19.heap.size := bxP1.lt
    have qP11 : w19.cell? ⟨w1.heap.size, 1, none⟩ = some (.slice A1b n1b c1b) := bxP1.cell 1
    have pP11 : ∀ o, (w19.alloc o).cell? ⟨w1.heap.size, 1, none⟩ = some (.slice A1b n1b c1b) := fun o => keepA qP11
    have rP11 : w1.heap.size < w19.heap.size := bxP1.lt
    have qP12 : w19.cell? ⟨w1.heap.size, 2, none⟩ = some (.slice A1c n1c c1c) := bxP1.cell 2
    have pP12 : ∀ o, (w19.alloc o).cell? ⟨w1.heap.size, 2, none⟩ = some (.slice A1c n1c c1c) := fun o => keepA qP12
    have rP12 : w1.heap.size < w19.heap.size := bxP1.lt
    have qr0 : w19.cell? ⟨br, 0, none⟩ = some (.slice Ara (joinG z0 z1).1.length cra) := bxr.cell 0
    have pr0 : ∀ o, (w19.alloc o).cell? ⟨br, 0, none⟩ = some (.slice Ara (joinG z0 z1).1.length cra) := fun o => keepA qr0
    have rr0 : br < w19.heap.size := bxr.lt
    have qr1 : w19.cell? ⟨br, 1, none⟩ = some (.slice Arb (joinG z0 z1).2.1.length crb) := bxr.cell 1
    have pr1 : ∀ o, (w19.alloc o).cell? ⟨br, 1, none⟩ = some (.slice Arb (joinG z0 z1).2.1.length crb) := fun o => keepA qr1
    have rr1 : br < w19.heap.size := bxr.lt
    have qr2 : w19.cell? ⟨br, 2, none⟩ = some (.slice Arc (joinG z0 z1).2.2.length crc) := bxr.cell 2
    have pr2 : ∀ o, (w19.alloc o).cell? ⟨br, 2, none⟩ = some (.slice Arc (joinG z0 z1).2.2.length crc) := fun o => keepA qr2
    have rr2 : br < w19.heap.size := bxr.lt
    have qx00 : w19.cell? ⟨w9.heap.size, 0, none⟩ = some (.slice Ax0a (z0).1.length cx0a) := bxx0.cell 0
    have px00 : ∀ o, (w19.alloc o).cell? ⟨w9.heap.size, 0, none⟩ = some (.slice Ax0a (z0).1.length cx0a) := fun o => keepA qx00
    have rx00 : w9.heap.size < w19.heap.size := bxx0.lt
    have qx01 : w19.cell? ⟨w9.heap.size, 1, none⟩ = some (.slice Ax0b (z0).2.1.length cx0b) := bxx0.cell 1
    have px01 : ∀ o, (w19.alloc o).cell? ⟨w9.heap.size, 1, none⟩ = some (.slice Ax0b (z0).2.1.length cx0b) := fun o => keepA qx01
    have rx01 : w9.heap.size < w19.heap.size := bxx0.lt
    have qx02 : w19.cell? ⟨w9.heap.size, 2, none⟩ = some (.slice Ax0c (z0).2.2.length cx0c) := bxx0.cell 2
    have px02 : ∀ o, (w19.alloc o).cell? ⟨w9.heap.size, 2, none⟩ = some (.slice Ax0c (z0).2.2.length cx0c) := fun o => keepA qx02
    have rx02 : w9.heap.size < w19.heap.size := bxx0.lt
    have qx10 : w19.cell? ⟨w11.heap.size, 0, none⟩ = some (.slice Ax1a (z1).1.length cx1a) := bxx1.cell 0
    have px10 : ∀ o, (w19.alloc o).cell? ⟨w11.heap.size, 0, none⟩ = some (.slice Ax1a (z1).1.length cx1a) := fun o => keepA qx10
    have rx10 : w11.heap.size < w19.heap.size := bxx1.lt
    have qx11 : w19.cell? ⟨w11.heap.size, 1, none⟩ = some (.slice Ax1b (z1).2.1.length cx1b) := bxx1.cell 1
    have px11 : ∀ o, (w19.alloc o).cell? ⟨w11.heap.size, 1, none⟩ = some (.slice Ax1b (z1).2.1.length cx1b) := fun o => keepA qx11
    have rx11 : w11.heap.size < w19.heap.size := bxx1.lt
    have qx12 : w19.cell? ⟨w11.heap.size, 2, none⟩ = some (.slice Ax1c (z1).2.2.length cx1c) := bxx1.cell 2
    have px12 : ∀ o, (w19.alloc o).cell? ⟨w11.heap.size, 2, none⟩ = some (.slice Ax1c (z1).2.2.length cx1c) := fun o => keepA qx12
    have rx12 : w11.heap.size < w19.heap.size := bxx1.lt
    have qg0 : w19.cell? ⟨w13.heap.size, 0, none⟩ = some (.slice Aga (joinG z0 z1).1.length cga) := bxg.cell 0
    have pg0 : ∀ o, (w19.alloc o).cell? ⟨w13.heap.size, 0, none⟩ = some (.slice Aga (joinG z0 z1).1.length cga) := fun o => keepA qg0
    have rg0 : w13.heap.size < w19.heap.size := bxg.lt
    have qg1 : w19.cell? ⟨w13.heap.size, 1, none⟩ = some (.slice Agb (joinG z0 z1).2.1.length cgb) := bxg.cell 1
    have pg1 : ∀ o, (w19.alloc o).cell? ⟨w13.heap.size, 1, none⟩ = some (.slice Agb (joinG z0 z1).2.1.length cgb) := fun o => keepA qg1
    have rg1 : w13.heap.size < w19.heap.size := bxg.lt
    have qg2 : w19.cell? ⟨w13.heap.size, 2, none⟩ = some (.slice Agc (joinG z0 z1).2.2.length cgc) := bxg.cell 2
    have pg2 : ∀ o, (w19.alloc o).cell? ⟨w13.heap.size, 2, none⟩ = some (.slice Agc (joinG z0 z1).2.2.length cgc) := fun o => keepA qg2
    have rg2 : w13.heap.size < w19.heap.size := bxg.lt
    go_wp2_with fail
    clear qP00 pP00 rP00 qP01 pP01 rP01 qP02 pP02 rP02 qP10 pP10 rP10 qP11 pP11 rP11 qP12 pP12 rP12 qr0 pr0 rr0 qr1 pr1 rr1 qr2 pr2 rr2 qx00 px00 rx00 qx01 px01 rx01 qx02 px02 rx02 qx10 px10 rx10 qx11 px11 rx11 qx12 px12 rx12 qg0 pg0 rg0 qg1 pg1 rg1 qg2 pg2 rg2
    refine (markParityU _ _ _ _ (1) _ _ _ (by omega) ox0 fx0 (by omega) (by omega)).mono ?_; rintro e w20 ⟨rfl, onx0, chw20⟩
    have zw20 := chw20.size
    have blw20 : Below w8.heap.size w19 w20 := chw20.below (by omega) (fun x h => h.1)
    have hww20 := below_then blw20 (by omega) hww19
    replace fr := fr.mark chw20 (by omega)
    replace fx1 := fx1.mark chw20 (by omega)
    replace fg := fg.mark chw20 (by omega)
    clear ox0 fx0; have ox0 := onx0; have fx0 := Far.refl w8.heap.size w20
    replace bxP0 := bxP0.chg chw20 (by omega)
    replace bxP1 := bxP1.chg chw20 (by omega)
    replace bxr := bxr.chg chw20 (by omega)
    replace bxx0 := bxx0.chg chw20 (by omega)
    replace bxx1 := bxx1.chg chw20 (by omega)
    replace bxg := bxg.chg chw20 (by omega)
    clear ox0 fx0
    clear bxx0
    have qP00 : w20.cell? ⟨w.heap.size, 0, none⟩ = some (.slice A0a n0a c0a) := bxP0.cell 0
    have pP00 : ∀ o, (w20.alloc o).cell? ⟨w.heap.size, 0, none⟩ = some (.slice A0a n0a c0a) := fun o => keepA qP00
    have rP00 : w.heap.size < w20.heap.size := bxP0.lt
    have qP01 : w20.cell? ⟨w.heap.size, 1, none⟩ = some (.slice A0b n0b c0b) := bxP0.cell 1
    have pP01 : ∀ o, (w20.alloc o).cell? ⟨w.heap.size, 1, none⟩ = some (.slice A0b n0b c0b) := fun o => keepA qP01
    have rP01 : w.heap.size < w20.heap.size := bxP0.lt
    have qP02 : w20.cell? ⟨w.heap.size, 2, none⟩ = some (.slice A0c n0c c0c) := bxP0.cell 2
    have pP02 : ∀ o, (w20.alloc o).cell? ⟨w.heap.size, 2, none⟩ = some (.slice A0c n0c c0c) := fun o => keepA qP02
    have rP02 : w.heap.size < w20.heap.size := bxP0.lt
    have qP10 : w20.cell? ⟨w1.heap.size, 0, none⟩ = some (.slice A1a n1a c1a) := bxP1.cell 0
    have pP10 : ∀ o, (w20.alloc o).cell? ⟨w1.heap.size, 0, none⟩ = some (.slice A1a n1a c1a) := fun o => keepA qP10
    have rP10 : w1.heap.size < w20.heap.size := bxP1.lt
    have qP11 : w20.cell? ⟨w1.heap.size, 1, none⟩ = some (.slice A1b n1b c1b) := bxP1.cell 1
    have pP11 : ∀ o, (w20.alloc o).cell? ⟨w1.heap.size, 1, none⟩ = some (.slice A1b n1b c1b) := fun o => keepA qP11
    have rP11 : w1.heap.size < w20.heap.size := bxP1.lt
    have qP12 : w20.cell? ⟨w1.heap.size, 2, none⟩ = some (.slice A1c n1c c1c) := bxP1.cell 2
    have pP12 : ∀ o, (w20.alloc o).cell? ⟨w1.heap.size, 2, none⟩ = some (.slice A1c n1c c1c) := fun o => keepA qP12
    have rP12 : w1.heap.size < w20.heap.size := bxP1.lt
    have qr0 : w20.cell? ⟨br, 0, none⟩ = some (.slice Ara (joinG z0 z1).1.length cra) := bxr.cell 0
    have pr0 : ∀ o, (w20.alloc o).cell? ⟨br, 0, none⟩ = some (.slice Ara (joinG z0 z1).1.length cra) := fun o => keepA qr0
    have rr0 : br < w20.heap.size := bxr.lt
    have qr1 : w20.cell? ⟨br, 1, none⟩ = some (.slice Arb (joinG z0 z1).2.1.length crb) := bxr.cell 1
    have pr1 : ∀ o, (w20.alloc o).cell? ⟨br, 1, none⟩ = some (.slice Arb (joinG z0 z1).2.1.length crb) := fun o => keepA qr1
    have rr1 : br < w20.heap.size := bxr.lt
    have qr2 : w20.cell? ⟨br, 2, none⟩ = some (.slice Arc (joinG z0 z1).2.2.length crc) := bxr.cell 2
    have pr2 : ∀ o, (w20.alloc o).cell? ⟨br, 2, none⟩ = some (.slice Arc (joinG z0 z1).2.2.length crc) := fun o => keepA qr2
    have rr2 : br < w20.heap.size := bxr.lt
    have qx10 : w20.cell? ⟨w11.heap.size, 0, none⟩ = some (.slice Ax1a (z1).1.length cx1a) := bxx1.cell 0
    have px10 : ∀ o, (w20.alloc o).cell? ⟨w11.heap.size, 0, none⟩ = some (.slice Ax1a (z1).1.length cx1a) := fun o => keepA qx10
    have rx10 : w11.heap.size < w20.heap.size := bxx1.lt
    have qx11 : w20.cell? ⟨w11.heap.size, 1, none⟩ = some (.slice Ax1b (z1).2.1.length cx1b) := bxx1.cell 1
    have px11 : ∀ o, (w20.alloc o).cell? ⟨w11.heap.size, 1, none⟩ = some (.slice Ax1b (z1).2.1.length cx1b) := fun o => keepA qx11
    have rx11 : w11.heap.size < w20.heap.size := bxx1.lt
    have qx12 : w20.cell? ⟨w11.heap.size, 2, none⟩ = some (.slice Ax1c (z1).2.2.length cx1c) := bxx1.cell 2
    have px12 : ∀ o, (w20.alloc o).cell? ⟨w11.heap.size, 2, none⟩ = some (.slice Ax1c (z1).2.2.length cx1c) := fun o => keepA qx12
    have rx12 : w11.heap.size < w20.heap.size := bxx1.lt
    have qg0 : w20.cell? ⟨w13.heap.size, 0, none⟩ = some (.slice Aga (joinG z0 z1).1.length cga) := bxg.cell 0
    have pg0 : ∀ o, (w20.alloc o).cell? ⟨w13.heap.size, 0, none⟩ = some (.slice Aga (joinG z0 z1).1.length cga) := fun o => keepA qg0
    have rg0 : w13.heap.size < w20.heap.size := bxg.lt
    have qg1 : w20.cell? ⟨w13.heap.size, 1, none⟩ = some (.slice Agb (joinG z0 z1).2.1.length cgb) := bxg.cell 1
    have pg1 : ∀ o, (w20.alloc o).cell? ⟨w13.heap.size, 1, none⟩ = some (.slice Agb (joinG z0 z1).2.1.length cgb) := fun o => keepA qg1
    have rg1 : w13.heap.size < w20.heap.size := bxg.lt
    have qg2 : w20.cell? ⟨w13.heap.size, 2, none⟩ = some (.slice Agc (joinG z0 z1).2.2.length cgc) := bxg.cell 2
    have pg2 : ∀ o, (w20.alloc o).cell? ⟨w13.heap.size, 2, none⟩ = some (.slice Agc (joinG z0 z1).2.2.length cgc) := fun o => keepA qg2
    have rg2 : w13.heap.size < w20.heap.size := bxg.lt
    go_wp2_with fail
    clear qP00 pP00 rP00 qP01 pP01 rP01 qP02 pP02 rP02 qP10 pP10 rP10 qP11 pP11 rP11 qP12 pP12 rP12 qr0 pr0 rr0 qr1 pr1 rr1 qr2 pr2 rr2 qx10 px10 rx10 qx11 px11 rx11 qx12 px12 rx12 qg0 pg0 rg0 qg1 pg1 rg1 qg2 pg2 rg2
    refine (markParityU _ _ _ _ (1 + (ptot (z0) : Int)) _ _ _ (by omega) ox1 fx1 (by omega) (by omega)).mono ?_; rintro e w21 ⟨rfl, onx1, chw21⟩
    have zw21 := chw21.size
    have blw21 : Below w10.heap.size w20 w21 := chw21.below (by omega) (fun x h => h.1)
    have hww21 := below_then blw21 (by omega) hww20
    replace fr := fr.mark chw21 (by omega)
    replace fg := fg.mark chw21 (by omega)
    clear ox1 fx1; have ox1 := onx1; have fx1 := Far.refl w10.heap.size w21
    replace bxP0 := bxP0.chg chw21 (by omega)
    replace bxP1 := bxP1.chg chw21 (by omega)
    replace bxr := bxr.chg chw21 (by omega)
    replace bxx1 := bxx1.chg chw21 (by omega)
    replace bxg := bxg.chg chw21 (by omega)
    clear ox1 fx1
    clear bxx1
    have qP00 : w21.cell? ⟨w.heap.size, 0, none⟩ = some (.slice A0a n0a c0a) := bxP0.cell 0
    have pP00 : ∀ o, (w21.alloc o).cell? ⟨w.heap.size, 0, none⟩ = some (.slice A0a n0a c0a) := fun o => keepA qP00
    have rP00 : w.heap.size < w21.heap.size := bxP0.lt
    have qP01 : w21.cell? ⟨w.heap.size, 1, none⟩ = some (.slice A0b n0b c0b) := bxP0.cell 1
    have pP01 : ∀ o, (w21.alloc o).cell? ⟨w.heap.size, 1, none⟩ = some (.slice A0b n0b c0b) := fun o => keepA qP01
    have rP01 : w.heap.size < w21.heap.size := bxP0.lt
    have qP02 : w21.cell? ⟨w.heap.size, 2, none⟩ = some (.slice A0c n0c c0c) := bxP0.cell 2
    have pP02 : ∀ o, (w21.alloc o).cell? ⟨w.heap.size, 2, none⟩ = some (.slice A0c n0c c0c) := fun o => keepA qP02
    have rP02 : w.heap.size < w21.heap.size := bxP0.lt
    have qP10 : w21.cell? ⟨w1.heap.size, 0, none⟩ = some (.slice A1a n1a c1a) := bxP1.cell 0
    have pP10 : ∀ o, (w21.alloc o).cell? ⟨w1.heap.size, 0, none⟩ = some (.slice A1a n1a c1a) := fun o => keepA qP10
    have rP10 : w1.heap.size < w21.heap.size := bxP1.lt
    have qP11 : w21.cell? ⟨w1.heap.size, 1, none⟩ = some (.slice A1b n1b c1b) := bxP1.cell 1
    have pP11 : ∀ o, (w21.alloc o).cell? ⟨w1.heap.size, 1, none⟩ = some (.slice A1b n1b c1b) := fun o => keepA qP11
    have rP11 : w1.heap.size < w21.heap.size := bxP1.lt
    have qP12 : w21.cell? ⟨w1.heap.size, 2, none⟩ = some (.slice A1c n1c c1c) := bxP1.cell 2
    have pP12 : ∀ o, (w21.alloc o).cell? ⟨w1.heap.size, 2, none⟩ = some (.slice A1c n1c c1c) := fun o => keepA qP12
    have rP12 : w1.heap.size < w21.heap.size := bxP1.lt
    have qr0 : w21.cell? ⟨br, 0, none⟩ = some (.slice Ara (joinG z0 z1).1.length cra) := bxr.cell 0
    have pr0 : ∀ o, (w21.alloc o).cell? ⟨br, 0, none⟩ = some (.slice Ara (joinG z0 z1).1.length cra) := fun o => keepA qr0
    have rr0 : br < w21.heap.size := bxr.lt
    have qr1 : w21.cell? ⟨br, 1, none⟩ = some (.slice Arb (joinG z0 z1).2.1.length crb) := bxr.cell 1
    have pr1 : ∀ o, (w21.alloc o).cell? ⟨br, 1, none⟩ = some (.slice Arb (joinG z0 z1).2.1.length crb) := fun o => keepA qr1
    have rr1 : br < w21.heap.size := bxr.lt
    have qr2 : w21.cell? ⟨br, 2, none⟩ = some (.slice Arc (joinG z0 z1).2.2.length crc) := bxr.cell 2
    have pr2 : ∀ o, (w21.alloc o).cell? ⟨br, 2, none⟩ = some (.slice Arc (joinG z0 z1).2.2.length crc) := fun o => keepA qr2
    have rr2 : br < w21.heap.size := bxr.lt
    have qg0 : w21.cell? ⟨w13.heap.size, 0, none⟩ = some (.slice Aga (joinG z0 z1).1.length cga) := bxg.cell 0
    have pg0 : ∀ o, (w21.alloc o).cell? ⟨w13.heap.size, 0, none⟩ = some (.slice Aga (joinG z0 z1).1.length cga) := fun o => keepA qg0
    have rg0 : w13.heap.size < w21.heap.size := bxg.lt
    have qg1 : w21.cell? ⟨w13.heap.size, 1, none⟩ = some (.slice Agb (joinG z0 z1).2.1.length cgb) := bxg.cell 1
    have pg1 : ∀ o, (w21.alloc o).cell? ⟨w13.heap.size, 1, none⟩ = some (.slice Agb (joinG z0 z1).2.1.length cgb) := fun o => keepA qg1
    have rg1 : w13.heap.size < w21.heap.size := bxg.lt
    have qg2 : w21.cell? ⟨w13.heap.size, 2, none⟩ = some (.slice Agc (joinG z0 z1).2.2.length cgc) := bxg.cell 2
    have pg2 : ∀ o, (w21.alloc o).cell? ⟨w13.heap.size, 2, none⟩ = some (.slice Agc (joinG z0 z1).2.2.length cgc) := fun o => keepA qg2
    have rg2 : w13.heap.size < w21.heap.size := bxg.lt
    go_wp2_with fail
    clear qP00 pP00 rP00 qP01 pP01 rP01 qP02 pP02 rP02 qP10 pP10 rP10 qP11 pP11 rP11 qP12 pP12 rP12 qr0 pr0 rr0 qr1 pr1 rr1 qr2 pr2 rr2 qg0 pg0 rg0 qg1 pg1 rg1 qg2 pg2 rg2
    refine (eqParity _ _ _ _ _ _ _ _ _ _ (Nat.le_refl _) (og.hold fg).reads (or.hold fr).reads).mono ?_; rintro e w22 ⟨rfl, hbw22⟩
    have zw22 := hbw22.size
    have hww22 := below_then hbw22 hww21.size hww21
    replace fr := fr.step hbw22
    replace fg := fg.step hbw22
    replace bxP0 := bxP0.below hbw22 bxP0.lt
    replace bxP1 := bxP1.below hbw22 bxP1.lt
    replace bxr := bxr.below hbw22 bxr.lt
    replace bxg := bxg.below hbw22 bxg.lt
    rw [eqPar_self]
    have qP00 : w22.cell? ⟨w.heap.size, 0, none⟩ = some (.slice A0a n0a c0a) := bxP0.cell 0
    have pP00 : ∀ o, (w22.alloc o).cell? ⟨w.heap.size, 0, none⟩ = some (.slice A0a n0a c0a) := fun o => keepA qP00
    have rP00 : w.heap.size < w22.heap.size := bxP0.lt
    have qP01 : w22.cell? ⟨w.heap.size, 1, none⟩ = some (.slice A0b n0b c0b) := bxP0.cell 1
    have pP01 : ∀ o, (w22.alloc o).cell? ⟨w.heap.size, 1, none⟩ = some (.slice A0b n0b c0b) := fun o => keepA qP01
    have rP01 : w.heap.size < w22.heap.size := bxP0.lt
    have qP02 : w22.cell? ⟨w.heap.size, 2, none⟩ = some (.slice A0c n0c c0c) := bxP0.cell 2
    have pP02 : ∀ o, (w22.alloc o).cell? ⟨w.heap.size, 2, none⟩ = some (.slice A0c n0c c0c) := fun o => keepA qP02
    have rP02 : w.heap.size < w22.heap.size := bxP0.lt
    have qP10 : w22.cell? ⟨w1.heap.size, 0, none⟩ = some (.slice A1a n1a c1a) := bxP1.cell 0
    have pP10 : ∀ o, (w22.alloc o).cell? ⟨w1.heap.size, 0, none⟩ = some (.slice A1a n1a c1a) := fun o => keepA qP10
    have rP10 : w1.heap.size < w22.heap.size := bxP1.lt
    have qP11 : w22.cell? ⟨w1.heap.size, 1, none⟩ = some (.slice A1b n1b c1b) := bxP1.cell 1
    have pP11 : ∀ o, (w22.alloc o).cell? ⟨w1.heap.size, 1, none⟩ = some (.slice A1b n1b c1b) := fun o => keepA qP11
    have rP11 : w1.heap.size < w22.heap.size := bxP1.lt
    have qP12 : w22.cell? ⟨w1.heap.size, 2, none⟩ = some (.slice A1c n1c c1c) := bxP1.cell 2
    have pP12 : ∀ o, (w22.alloc o).cell? ⟨w1.heap.size, 2, none⟩ = some (.slice A1c n1c c1c) := fun o => keepA qP12
    have rP12 : w1.heap.size < w22.heap.size := bxP1.lt
    have qr0 : w22.cell? ⟨br, 0, none⟩ = some (.slice Ara (joinG z0 z1).1.length cra) := bxr.cell 0
    have pr0 : ∀ o, (w22.alloc o).cell? ⟨br, 0, none⟩ = some (.slice Ara (joinG z0 z1).1.length cra) := fun o => keepA qr0
    have rr0 : br < w22.heap.size := bxr.lt
    have qr1 : w22.cell? ⟨br, 1, none⟩ = some (.slice Arb (joinG z0 z1).2.1.length crb) := bxr.cell 1
    have pr1 : ∀ o, (w22.alloc o).cell? ⟨br, 1, none⟩ = some (.slice Arb (joinG z0 z1).2.1.length crb) := fun o => keepA qr1
    have rr1 : br < w22.heap.size := bxr.lt
    have qr2 : w22.cell? ⟨br, 2, none⟩ = some (.slice Arc (joinG z0 z1).2.2.length crc) := bxr.cell 2
    have pr2 : ∀ o, (w22.alloc o).cell? ⟨br, 2, none⟩ = some (.slice Arc (joinG z0 z1).2.2.length crc) := fun o => keepA qr2
    have rr2 : br < w22.heap.size := bxr.lt
    have qg0 : w22.cell? ⟨w13.heap.size, 0, none⟩ = some (.slice Aga (joinG z0 z1).1.length cga) := bxg.cell 0
    have pg0 : ∀ o, (w22.alloc o).cell? ⟨w13.heap.size, 0, none⟩ = some (.slice Aga (joinG z0 z1).1.length cga) := fun o => keepA qg0
    have rg0 : w13.heap.size < w22.heap.size := bxg.lt
    have qg1 : w22.cell? ⟨w13.heap.size, 1, none⟩ = some (.slice Agb (joinG z0 z1).2.1.length cgb) := bxg.cell 1
    have pg1 : ∀ o, (w22.alloc o).cell? ⟨w13.heap.size, 1, none⟩ = some (.slice Agb (joinG z0 z1).2.1.length cgb) := fun o => keepA qg1
    have rg1 : w13.heap.size < w22.heap.size := bxg.lt
    have qg2 : w22.cell? ⟨w13.heap.size, 2, none⟩ = some (.slice Agc (joinG z0 z1).2.2.length cgc) := bxg.cell 2
    have pg2 : ∀ o, (w22.alloc o).cell? ⟨w13.heap.size, 2, none⟩ = some (.slice Agc (joinG z0 z1).2.2.length cgc) := fun o => keepA qg2
    have rg2 : w13.heap.size < w22.heap.size := bxg.lt
    go_wp2_with fail
    clear qP00 pP00 rP00 qP01 pP01 rP01 qP02 pP02 rP02 qP10 pP10 rP10 qP11 pP11 rP11 qP12 pP12 rP12 qr0 pr0 rr0 qr1 pr1 rr1 qr2 pr2 rr2 qg0 pg0 rg0 qg1 pg1 rg1 qg2 pg2 rg2
    refine (markParityU _ _ _ _ 1 _ _ _ (by omega) og fg (by omega) (by omega)).mono ?_; rintro e w23 ⟨rfl, ong, chw23⟩
    have zw23 := chw23.size
    have blw23 : Below w12.heap.size w22 w23 := chw23.below (by omega) (fun x h => h.1)
    have hww23 := below_then blw23 (by omega) hww22
    replace fr := fr.mark chw23 (by omega)
    clear og fg; have og := ong; have fg := Far.refl w12.heap.size w23
    replace bxP0 := bxP0.chg chw23 (by omega)
    replace bxP1 := bxP1.chg chw23 (by omega)
    replace bxr := bxr.chg chw23 (by omega)
    replace bxg := bxg.chg chw23 (by omega)
    have qP00 : w23.cell? ⟨w.heap.size, 0, none⟩ = some (.slice A0a n0a c0a) := bxP0.cell 0
    have pP00 : ∀ o, (w23.alloc o).cell? ⟨w.heap.size, 0, none⟩ = some (.slice A0a n0a c0a) := fun o => keepA qP00
    have rP00 : w.heap.size < w23.heap.size := bxP0.lt
    have qP01 : w23.cell? ⟨w.heap.size, 1, none⟩ = some (.slice A0b n0b c0b) := bxP0.cell 1
    have pP01 : ∀ o, (w23.alloc o).cell? ⟨w.heap.size, 1, none⟩ = some (.slice A0b n0b c0b) := fun o => keepA qP01
    have rP01 : w.heap.size < w23.heap.size := bxP0.lt
    have qP02 : w23.cell? ⟨w.heap.size, 2, none⟩ = some (.slice A0c n0c c0c) := bxP0.cell 2
    have pP02 : ∀ o, (w23.alloc o).cell? ⟨w.heap.size, 2, none⟩ = some (.slice A0c n0c c0c) := fun o => keepA qP02
    have rP02 : w.heap.size < w23.heap.size := bxP0.lt
    have qP10 : w23.cell? ⟨w1.heap.size, 0, none⟩ = some (.slice A1a n1a c1a) := bxP1.cell 0
    have pP10 : ∀ o, (w23.alloc o).cell? ⟨w1.heap.size, 0, none⟩ = some (.slice A1a n1a c1a) := fun o => keepA qP10
    have rP10 : w1.heap.size < w23.heap.size := bxP1.lt
    have qP11 : w23.cell? ⟨w1.heap.size, 1, none⟩ = some (.slice A1b n1b c1b) := bxP1.cell 1
    have pP11 : ∀ o, (w23.alloc o).cell? ⟨w1.heap.size, 1, none⟩ = some (.slice A1b n1b c1b) := fun o => keepA qP11
    have rP11 : w1.heap.size < w23.heap.size := bxP1.lt
    have qP12 : w23.cell? ⟨w1.heap.size, 2, none⟩ = some (.slice A1c n1c c1c) := bxP1.cell 2
    have pP12 : ∀ o, (w23.alloc o).cell? ⟨w1.heap.size, 2, none⟩ = some (.slice A1c n1c c1c) := fun o => keepA qP12
    have rP12 : w1.heap.size < w23.heap.size := bxP1.lt
    have qr0 : w23.cell? ⟨br, 0, none⟩ = some (.slice Ara (joinG z0 z1).1.length cra) := bxr.cell 0
    have pr0 : ∀ o, (w23.alloc o).cell? ⟨br, 0, none⟩ = some (.slice Ara (joinG z0 z1).1.length cra) := fun o => keepA qr0
    have rr0 : br < w23.heap.size := bxr.lt
    have qr1 : w23.cell? ⟨br, 1, none⟩ = some (.slice Arb (joinG z0 z1).2.1.length crb) := bxr.cell 1
    have pr1 : ∀ o, (w23.alloc o).cell? ⟨br, 1, none⟩ = some (.slice Arb (joinG z0 z1).2.1.length crb) := fun o => keepA qr1
    have rr1 : br < w23.heap.size := bxr.lt
    have qr2 : w23.cell? ⟨br, 2, none⟩ = some (.slice Arc (joinG z0 z1).2.2.length crc) := bxr.cell 2
    have pr2 : ∀ o, (w23.alloc o).cell? ⟨br, 2, none⟩ = some (.slice Arc (joinG z0 z1).2.2.length crc) := fun o => keepA qr2
    have rr2 : br < w23.heap.size := bxr.lt
    have qg0 : w23.cell? ⟨w13.heap.size, 0, none⟩ = some (.slice Aga (joinG z0 z1).1.length cga) := bxg.cell 0
    have pg0 : ∀ o, (w23.alloc o).cell? ⟨w13.heap.size, 0, none⟩ = some (.slice Aga (joinG z0 z1).1.length cga) := fun o => keepA qg0
    have rg0 : w13.heap.size < w23.heap.size := bxg.lt
    have qg1 : w23.cell? ⟨w13.heap.size, 1, none⟩ = some (.slice Agb (joinG z0 z1).2.1.length cgb) := bxg.cell 1
    have pg1 : ∀ o, (w23.alloc o).cell? ⟨w13.heap.size, 1, none⟩ = some (.slice Agb (joinG z0 z1).2.1.length cgb) := fun o => keepA qg1
    have rg1 : w13.heap.size < w23.heap.size := bxg.lt
    have qg2 : w23.cell? ⟨w13.heap.size, 2, none⟩ = some (.slice Agc (joinG z0 z1).2.2.length cgc) := bxg.cell 2
    have pg2 : ∀ o, (w23.alloc o).cell? ⟨w13.heap.size, 2, none⟩ = some (.slice Agc (joinG z0 z1).2.2.length cgc) := fun o => keepA qg2
    have rg2 : w13.heap.size < w23.heap.size := bxg.lt
    go_wp2_with fail
    clear qP00 pP00 rP00 qP01 pP01 rP01 qP02 pP02 rP02 qP10 pP10 rP10 qP11 pP11 rP11 qP12 pP12 rP12 qr0 pr0 rr0 qr1 pr1 rr1 qr2 pr2 rr2 qg0 pg0 rg0 qg1 pg1 rg1 qg2 pg2 rg2
    refine (heldParity _ _ _ (joinG z0 z1) 1 _ _ (Nat.le_refl _) (og.hold fg).reads (by omega) (by omega)).mono ?_; rintro e w24 ⟨rfl, hbw24⟩
    have zw24 := hbw24.size
    have hww24 := below_then hbw24 hww23.size hww23
    replace fr := fr.step hbw24
    replace fg := fg.step hbw24
    replace bxP0 := bxP0.below hbw24 bxP0.lt
    replace bxP1 := bxP1.below hbw24 bxP1.lt
    replace bxr := bxr.below hbw24 bxr.lt
    replace bxg := bxg.below hbw24 bxg.lt
    have qP00 : w24.cell? ⟨w.heap.size, 0, none⟩ = some (.slice A0a n0a c0a) := bxP0.cell 0
    have pP00 : ∀ o, (w24.alloc o).cell? ⟨w.heap.size, 0, none⟩ = some (.slice A0a n0a c0a) := fun o => keepA qP00
    have rP00 : w.heap.size < w24.heap.size := bxP0.lt
    have qP01 : w24.cell? ⟨w.heap.size, 1, none⟩ = some (.slice A0b n0b c0b) := bxP0.cell 1
    have pP01 : ∀ o, (w24.alloc o).cell? ⟨w.heap.size, 1, none⟩ = some (.slice A0b n0b c0b) := fun o => keepA qP01
    have rP01 : w.heap.size < w24.heap.size := bxP0.lt
    have qP02 : w24.cell? ⟨w.heap.size, 2, none⟩ = some (.slice A0c n0c c0c) := bxP0.cell 2
    have pP02 : ∀ o, (w24.alloc o).cell? ⟨w.heap.size, 2, none⟩ = some (.slice A0c n0c c0c) := fun o => keepA qP02
    have rP02 : w.heap.size < w24.heap.size := bxP0.lt
    have qP10 : w24.cell? ⟨w1.heap.size, 0, none⟩ = some (.slice A1a n1a c1a) := bxP1.cell 0
    have pP10 : ∀ o, (w24.alloc o).cell? ⟨w1.heap.size, 0, none⟩ = some (.slice A1a n1a c1a) := fun o => keepA qP10
    have rP10 : w1.heap.size < w24.heap.size := bxP1.lt
    have qP11 : w24.cell? ⟨w1.heap.size, 1, none⟩ = some (.slice A1b n1b c1b) := bxP1.cell 1
    have pP11 : ∀ o, (w24.alloc o).cell? ⟨w1.heap.size, 1, none⟩ = some (.slice A1b n1b c1b) := fun o => keepA qP11
    have rP11 : w1.heap.size < w24.heap.size := bxP1.lt
    have qP12 : w24.cell? ⟨w1.heap.size, 2, none⟩ = some (.slice A1c n1c c1c) := bxP1.cell 2
    have pP12 : ∀ o, (w24.alloc o).cell? ⟨w1.heap.size, 2, none⟩ = some (.slice A1c n1c c1c) := fun o => keepA qP12
    have rP12 : w1.heap.size < w24.heap.size := bxP1.lt
    have qr0 : w24.cell? ⟨br, 0, none⟩ = some (.slice Ara (joinG z0 z1).1.length cra) := bxr.cell 0
    have pr0 : ∀ o, (w24.alloc o).cell? ⟨br, 0, none⟩ = some (.slice Ara (joinG z0 z1).1.length cra) := fun o => keepA qr0
    have rr0 : br < w24.heap.size := bxr.lt
    have qr1 : w24.cell? ⟨br, 1, none⟩ = some (.slice Arb (joinG z0 z1).2.1.length crb) := bxr.cell 1
    have pr1 : ∀ o, (w24.alloc o).cell? ⟨br, 1, none⟩ = some (.slice Arb (joinG z0 z1).2.1.length crb) := fun o => keepA qr1
    have rr1 : br < w24.heap.size := bxr.lt
    have qr2 : w24.cell? ⟨br, 2, none⟩ = some (.slice Arc (joinG z0 z1).2.2.length crc) := bxr.cell 2
    have pr2 : ∀ o, (w24.alloc o).cell? ⟨br, 2, none⟩ = some (.slice Arc (joinG z0 z1).2.2.length crc) := fun o => keepA qr2
    have rr2 : br < w24.heap.size := bxr.lt
    have qg0 : w24.cell? ⟨w13.heap.size, 0, none⟩ = some (.slice Aga (joinG z0 z1).1.length cga) := bxg.cell 0
    have pg0 : ∀ o, (w24.alloc o).cell? ⟨w13.heap.size, 0, none⟩ = some (.slice Aga (joinG z0 z1).1.length cga) := fun o => keepA qg0
    have rg0 : w13.heap.size < w24.heap.size := bxg.lt
    have qg1 : w24.cell? ⟨w13.heap.size, 1, none⟩ = some (.slice Agb (joinG z0 z1).2.1.length cgb) := bxg.cell 1
    have pg1 : ∀ o, (w24.alloc o).cell? ⟨w13.heap.size, 1, none⟩ = some (.slice Agb (joinG z0 z1).2.1.length cgb) := fun o => keepA qg1
    have rg1 : w13.heap.size < w24.heap.size := bxg.lt
    have qg2 : w24.cell? ⟨w13.heap.size, 2, none⟩ = some (.slice Agc (joinG z0 z1).2.2.length cgc) := bxg.cell 2
    have pg2 : ∀ o, (w24.alloc o).cell? ⟨w13.heap.size, 2, none⟩ = some (.slice Agc (joinG z0 z1).2.2.length cgc) := fun o => keepA qg2
    have rg2 : w13.heap.size < w24.heap.size := bxg.lt
    go_wp2_with fail
    clear qP00 pP00 rP00 qP01 pP01 rP01 qP02 pP02 rP02 qP10 pP10 rP10 qP11 pP11 rP11 qP12 pP12 rP12 qr0 pr0 rr0 qr1 pr1 rr1 qr2 pr2 rr2 qg0 pg0 rg0 qg1 pg1 rg1 qg2 pg2 rg2
    go_upto_region 31 with (fail)
    go_cut [15, 16] (fun u0 u1 wx => Hid (∃ (bh : Nat) (Aha Ahb Ahc : Option Addr) (cha chb chc : Nat) (lh : Nat) (mh : World), u0 = .pointer (some ⟨bh, 0, none⟩) ∧ u1 = .bool (okJoin z0 z1) ∧ Box wx bh 44 #[.slice Aha (joinG z0 z1).1.length cha, .slice Ahb (joinG z0 z1).2.1.length chb, .slice Ahc (joinG z0 z1).2.2.length chc] ∧ OPar mh lh (.slice Aha (joinG z0 z1).1.length cha) (.slice Ahb (joinG z0 z1).2.1.length chb) (.slice Ahc (joinG z0 z1).2.2.length chc) (joinG z0 z1) ∧ Far lh mh wx ∧ Below w.heap.size w wx ∧ Far lr mr wx ∧ Far w12.heap.size w23 wx ∧ Box wx (w.heap.size) 40 #[.slice A0a n0a c0a, .slice A0b n0b c0b, .slice A0c n0c c0c] ∧ Box wx (w1.heap.size) 40 #[.slice A1a n1a c1a, .slice A1b n1b c1b, .slice A1c n1c c1c] ∧ Box wx (br) 44 #[.slice Ara (joinG z0 z1).1.length cra, .slice Arb (joinG z0 z1).2.1.length crb, .slice Arc (joinG z0 z1).2.2.length crc] ∧ Box wx (w13.heap.size) 44 #[.slice Aga (joinG z0 z1).1.length cga, .slice Agb (joinG z0 z1).2.1.length cgb, .slice Agc (joinG z0 z1).2.2.length cgc]))
    case first =>
      have hwC := Below.drew hww24
      replace bxP0 : Box w24.drew _ _ _ := bxP0
      replace bxP1 : Box w24.drew _ _ _ := bxP1
      replace bxr : Box w24.drew _ _ _ := bxr
      replace bxg : Box w24.drew _ _ _ := bxg
      replace fr := Far.drew fr
      replace fg := Far.drew fg
      have sP00 : w24.drew.cell? ⟨w.heap.size, 0, none⟩ = some (.slice A0a n0a c0a) := bxP0.cell 0
      have sP01 : w24.drew.cell? ⟨w.heap.size, 1, none⟩ = some (.slice A0b n0b c0b) := bxP0.cell 1
      have sP02 : w24.drew.cell? ⟨w.heap.size, 2, none⟩ = some (.slice A0c n0c c0c) := bxP0.cell 2
      have sP10 : w24.drew.cell? ⟨w1.heap.size, 0, none⟩ = some (.slice A1a n1a c1a) := bxP1.cell 0
      have sP11 : w24.drew.cell? ⟨w1.heap.size, 1, none⟩ = some (.slice A1b n1b c1b) := bxP1.cell 1
      have sP12 : w24.drew.cell? ⟨w1.heap.size, 2, none⟩ = some (.slice A1c n1c c1c) := bxP1.cell 2
      refine wp_region_held_drew (S := (fun w' => w'.cell? ⟨w.heap.size, 0, none⟩ = some (.slice A0a n0a c0a) ∧ w'.cell? ⟨w.heap.size, 1, none⟩ = some (.slice A0b n0b c0b) ∧ w'.cell? ⟨w.heap.size, 2, none⟩ = some (.slice A0c n0c c0c) ∧ w'.cell? ⟨w1.heap.size, 0, none⟩ = some (.slice A1a n1a c1a) ∧ w'.cell? ⟨w1.heap.size, 1, none⟩ = some (.slice A1b n1b c1b) ∧ w'.cell? ⟨w1.heap.size, 2, none⟩ = some (.slice A1c n1c c1c))) (by kernel_rfl) (⟨sP00, sP01, sP02, sP10, sP11, sP12⟩) (fun hHeld => ?_)
      generalize w24.drew = wD at *
      refine takeH0 (v := ?_) (by kernel_rfl) (by kernel_rfl) (by kernel_rfl) (fun _ _ _ h => h) hHeld (by rfl) ?_ ?_
      rotate_left; · (intro w hSw; (try dsimp only at hSw); go_simp; try with_reducible rfl)
      try simp only [Act.put, List.setIfInBounds_toArray, List.set_cons_zero, List.set_cons_succ]
      refine takeH2 (v := ?_) (by kernel_rfl) (by kernel_rfl) (by kernel_rfl) (fun _ _ _ h => h) hHeld (by rfl) ?_ ?_
      rotate_left; · (intro w hSw; (try dsimp only at hSw); go_simp; try with_reducible rfl)
      try simp only [Act.put, List.setIfInBounds_toArray, List.set_cons_zero, List.set_cons_succ]
      refine twoH_1_8 (by kernel_rfl) (fun K hK => ?_) (fun K hK => ?_)
      · go_simp
        go_at_call 27
        refine (toParity _ _ _ _ _ _ (Nat.le_refl _) (ha0.keep (keeps_below hwC)) hm0).mono ?_; rintro e w25 ⟨vs0a, vs0b, vs0c, rfl, os0, hbw25⟩
        obtain ⟨As0a, cs0a, As0b, cs0b, As0c, cs0c, rfl, rfl, rfl⟩ := os0.form
        replace hwC := below_then hbw25 hwC.size hwC
        replace bxP0 := bxP0.on hbw25
        replace bxP1 := bxP1.on hbw25
        replace bxr := bxr.on hbw25
        replace bxg := bxg.on hbw25
        replace fr := fr.step hbw25
        replace fg := fg.step hbw25
        have fs0 := Far.refl wD.heap.size w25
        have sP00 : w25.cell? ⟨w.heap.size, 0, none⟩ = some (.slice A0a n0a c0a) := bxP0.cell 0
        have sP01 : w25.cell? ⟨w.heap.size, 1, none⟩ = some (.slice A0b n0b c0b) := bxP0.cell 1
        have sP02 : w25.cell? ⟨w.heap.size, 2, none⟩ = some (.slice A0c n0c c0c) := bxP0.cell 2
        have sP10 : w25.cell? ⟨w1.heap.size, 0, none⟩ = some (.slice A1a n1a c1a) := bxP1.cell 0
        have sP11 : w25.cell? ⟨w1.heap.size, 1, none⟩ = some (.slice A1b n1b c1b) := bxP1.cell 1
        have sP12 : w25.cell? ⟨w1.heap.size, 2, none⟩ = some (.slice A1c n1c c1c) := bxP1.cell 2
        go_wp2_with fail
        refine hK.out _ _ (⟨sP00, sP01, sP02, sP10, sP11, sP12⟩) (fun hHeld => ?_)
        clear hK K
        try simp only [Act.put, List.setIfInBounds_toArray, List.set_cons_zero, List.set_cons_succ]
        refine twoH_3_8 (by kernel_rfl) (fun K hK => ?_) (fun K hK => ?_)
        · go_simp
          go_at_call 27
          refine (toParity _ _ _ _ _ _ (Nat.le_refl _) (ha1.keep (keeps_below hwC)) hm1).mono ?_; rintro e w26 ⟨vs1a, vs1b, vs1c, rfl, os1, hbw26⟩
          obtain ⟨As1a, cs1a, As1b, cs1b, As1c, cs1c, rfl, rfl, rfl⟩ := os1.form
          replace hwC := below_then hbw26 hwC.size hwC
          replace bxP0 := bxP0.on hbw26
          replace bxP1 := bxP1.on hbw26
          replace bxr := bxr.on hbw26
          replace bxg := bxg.on hbw26
          replace fr := fr.step hbw26
          replace fg := fg.step hbw26
          replace fs0 := fs0.step hbw26
          have fs1 := Far.refl w25.heap.size w26
          have sP00 : w26.cell? ⟨w.heap.size, 0, none⟩ = some (.slice A0a n0a c0a) := bxP0.cell 0
          have sP01 : w26.cell? ⟨w.heap.size, 1, none⟩ = some (.slice A0b n0b c0b) := bxP0.cell 1
          have sP02 : w26.cell? ⟨w.heap.size, 2, none⟩ = some (.slice A0c n0c c0c) := bxP0.cell 2
          have sP10 : w26.cell? ⟨w1.heap.size, 0, none⟩ = some (.slice A1a n1a c1a) := bxP1.cell 0
          have sP11 : w26.cell? ⟨w1.heap.size, 1, none⟩ = some (.slice A1b n1b c1b) := bxP1.cell 1
          have sP12 : w26.cell? ⟨w1.heap.size, 2, none⟩ = some (.slice A1c n1c c1c) := bxP1.cell 2
          go_wp2_with fail
          refine hK.out _ _ (⟨sP00, sP01, sP02, sP10, sP11, sP12⟩) (fun hHeld => ?_)
          clear hK K
          try simp only [Act.put, List.setIfInBounds_toArray, List.set_cons_zero, List.set_cons_succ]
          refine twoH_4_8 (by kernel_rfl) (fun K hK => ?_) (fun K hK => ?_)
          · go_simp
            go_at_call 28
            refine (implJoinedGame _ _ _ _ _ _ _ _ _ _ (Nat.le_refl _) (os0.hold fs0).reads (os1.hold fs1).reads).mono ?_; rintro e w27 ⟨vha, vhb, vhc, rfl, oh, hbw27⟩
            obtain ⟨Aha, cha, Ahb, chb, Ahc, chc, rfl, rfl, rfl⟩ := oh.form
            replace hwC := below_then hbw27 hwC.size hwC
            replace bxP0 := bxP0.on hbw27
            replace bxP1 := bxP1.on hbw27
            replace bxr := bxr.on hbw27
            replace bxg := bxg.on hbw27
            replace fr := fr.step hbw27
            replace fg := fg.step hbw27
            replace fs0 := fs0.step hbw27
            replace fs1 := fs1.step hbw27
            have fh := Far.refl w26.heap.size w27
            have sP00 : w27.cell? ⟨w.heap.size, 0, none⟩ = some (.slice A0a n0a c0a) := bxP0.cell 0
            have sP01 : w27.cell? ⟨w.heap.size, 1, none⟩ = some (.slice A0b n0b c0b) := bxP0.cell 1
            have sP02 : w27.cell? ⟨w.heap.size, 2, none⟩ = some (.slice A0c n0c c0c) := bxP0.cell 2
            have sP10 : w27.cell? ⟨w1.heap.size, 0, none⟩ = some (.slice A1a n1a c1a) := bxP1.cell 0
            have sP11 : w27.cell? ⟨w1.heap.size, 1, none⟩ = some (.slice A1b n1b c1b) := bxP1.cell 1
            have sP12 : w27.cell? ⟨w1.heap.size, 2, none⟩ = some (.slice A1c n1c c1c) := bxP1.cell 2
            go_wp2_with fail
            refine hK.out _ _ (⟨sP00, sP01, sP02, sP10, sP11, sP12⟩) (fun hHeld => ?_)
            clear hK K
            try simp only [Act.put, List.setIfInBounds_toArray, List.set_cons_zero, List.set_cons_succ]
            refine takeH5 (v := ?_) (by kernel_rfl) (by kernel_rfl) (by kernel_rfl) (fun _ _ _ h => h) hHeld (by rfl) ?_ ?_
            rotate_left; · (intro w hSw; (try dsimp only at hSw); go_simp; try with_reducible rfl)
            try simp only [Act.put, List.setIfInBounds_toArray, List.set_cons_zero, List.set_cons_succ]
            refine takeH6 (v := ?_) (by kernel_rfl) (by kernel_rfl) (by kernel_rfl) (fun _ _ _ h => h) hHeld (by rfl) ?_ ?_
            rotate_left; · (intro w hSw; (try dsimp only at hSw); go_simp; try with_reducible rfl)
            try simp only [Act.put, List.setIfInBounds_toArray, List.set_cons_zero, List.set_cons_succ]
            refine takeH7 (v := ?_) (by kernel_rfl) (by kernel_rfl) (by kernel_rfl) (fun _ _ _ h => h) hHeld (by rfl) ?_ ?_
            rotate_left; · (intro w hSw; (try dsimp only at hSw); go_simp; try with_reducible rfl)
            try simp only [Act.put, List.setIfInBounds_toArray, List.set_cons_zero, List.set_cons_succ]
            refine callH8 (by kernel_rfl) (fun K hK => ?_)
            go_simp
            refine hK.out _ _ (⟨keepA sP00, keepA sP01, keepA sP02, keepA sP10, keepA sP11, keepA sP12⟩) (fun hHeld => ?_)
            clear hK K
            try simp only [Act.put, List.setIfInBounds_toArray, List.set_cons_zero, List.set_cons_succ]
            have hside : w27.heap.size ≤ w27.heap.size := Nat.le_refl _
            have hbA : Below w27.heap.size w27 (w27.alloc (.cells #[.slice none 0 0, .slice none 0 0, .slice none 0 0] 44)) := below_alloc (Nat.le_refl _) (Below.refl _ _)
            have bz : Box (w27.alloc (.cells #[.slice none 0 0, .slice none 0 0, .slice none 0 0] 44)) w27.heap.size 44 #[.slice none 0 0, .slice none 0 0, .slice none 0 0] := Box.new _ _ _
            have hsz0 := hwC.size
            replace hwC := below_then hbA hwC.size hwC
            have hneP0 : w.heap.size ≠ w27.heap.size := by have := bxP0.lt; omega
            have hneP1 : w1.heap.size ≠ w27.heap.size := by have := bxP1.lt; omega
            have hner : br ≠ w27.heap.size := by have := bxr.lt; omega
            have hneg : w13.heap.size ≠ w27.heap.size := by have := bxg.lt; omega
            have hszr := fr.size
            have hszg := fg.size
            replace bxP0 := bxP0.on hbA
            replace bxP1 := bxP1.on hbA
            replace bxr := bxr.on hbA
            replace bxg := bxg.on hbA
            replace fr := fr.step hbA
            replace fg := fg.step hbA
            replace fs0 := fs0.step hbA
            replace fs1 := fs1.step hbA
            replace fh := fh.step hbA
            clear hbA
            generalize w27.alloc (.cells #[.slice none 0 0, .slice none 0 0, .slice none 0 0] 44) = wA3 at *
            have sP00 : wA3.cell? ⟨w.heap.size, 0, none⟩ = some (.slice A0a n0a c0a) := bxP0.cell 0
            have sP01 : wA3.cell? ⟨w.heap.size, 1, none⟩ = some (.slice A0b n0b c0b) := bxP0.cell 1
            have sP02 : wA3.cell? ⟨w.heap.size, 2, none⟩ = some (.slice A0c n0c c0c) := bxP0.cell 2
            have sP10 : wA3.cell? ⟨w1.heap.size, 0, none⟩ = some (.slice A1a n1a c1a) := bxP1.cell 0
            have sP11 : wA3.cell? ⟨w1.heap.size, 1, none⟩ = some (.slice A1b n1b c1b) := bxP1.cell 1
            have sP12 : wA3.cell? ⟨w1.heap.size, 2, none⟩ = some (.slice A1c n1c c1c) := bxP1.cell 2
            have hsep0 := hneP0
            have hsep1 := hneP1
            have qz0 := bz.cell 0
            have qz1 := bz.cell 1
            have qz2 := bz.cell 2
            have qh0 := bz.hot 0
            have qh1 := bz.hot 1
            have qh2 := bz.hot 2
            simp only [List.getElem?_toArray, List.getElem?_cons_zero, List.getElem?_cons_succ] at qz0 qz1 qz2
            refine callH9 (by kernel_rfl) (fun K hK => ?_)
            go_simp
            refine hK.out _ _ (by refine ⟨?_, ?_, ?_, ?_, ?_, ?_⟩ <;> (refine keepS (keepS (keepS ?_ ?_) ?_) ?_ <;> first | assumption | exact hsep0 | exact hsep1)) (fun hHeld => ?_)
            clear hK K
            try simp only [Act.put, List.setIfInBounds_toArray, List.set_cons_zero, List.set_cons_succ]
            refine takeH10 (v := ?_) (by kernel_rfl) (by kernel_rfl) (by kernel_rfl) (fun _ _ _ h => h) hHeld (by rfl) ?_ ?_
            rotate_left; · (intro w hSw; (try dsimp only at hSw); go_simp; try with_reducible rfl)
            try simp only [Act.put, List.setIfInBounds_toArray, List.set_cons_zero, List.set_cons_succ]
            refine wpAnyH_done (by kernel_rfl) ?_ _
            go_wp2_with fail; go_meet
            refine Lib.hid ⟨_, _, _, _, _, _, _, _, _, rfl, rfl, bz.set3 _ _ _, oh, fh.set3 (by first | exact .inl hside | exact .inr hside) _ _ _, below_set3 hwC hwC.size (by omega) _ _ _, ?_, ?_, ?_, ?_, ?_, ?_⟩
            · exact fr.set3 (.inr (by omega)) _ _ _
            · exact fg.set3 (.inr (by omega)) _ _ _
            · exact bxP0.far3 hneP0 _ _ _
            · exact bxP1.far3 hneP1 _ _ _
            · exact bxr.far3 hner _ _ _
            · exact bxg.far3 hneg _ _ _
          · go_simp
            refine hK.out _ _ (⟨keepA sP00, keepA sP01, keepA sP02, keepA sP10, keepA sP11, keepA sP12⟩) (fun hHeld => ?_)
            clear hK K
            try simp only [Act.put, List.setIfInBounds_toArray, List.set_cons_zero, List.set_cons_succ]
            have hbA : Below w26.heap.size w26 (w26.alloc (.cells #[.slice none 0 0, .slice none 0 0, .slice none 0 0] 44)) := below_alloc (Nat.le_refl _) (Below.refl _ _)
            have bz : Box (w26.alloc (.cells #[.slice none 0 0, .slice none 0 0, .slice none 0 0] 44)) w26.heap.size 44 #[.slice none 0 0, .slice none 0 0, .slice none 0 0] := Box.new _ _ _
            have hsz0 := hwC.size
            replace hwC := below_then hbA hwC.size hwC
            have hneP0 : w.heap.size ≠ w26.heap.size := by have := bxP0.lt; omega
            have hneP1 : w1.heap.size ≠ w26.heap.size := by have := bxP1.lt; omega
            have hner : br ≠ w26.heap.size := by have := bxr.lt; omega
            have hneg : w13.heap.size ≠ w26.heap.size := by have := bxg.lt; omega
            have hszr := fr.size
            have hszg := fg.size
            replace bxP0 := bxP0.on hbA
            replace bxP1 := bxP1.on hbA
            replace bxr := bxr.on hbA
            replace bxg := bxg.on hbA
            replace fr := fr.step hbA
            replace fg := fg.step hbA
            replace fs0 := fs0.step hbA
            replace fs1 := fs1.step hbA
            clear hbA
            generalize w26.alloc (.cells #[.slice none 0 0, .slice none 0 0, .slice none 0 0] 44) = wA2 at *
            have sP00 : wA2.cell? ⟨w.heap.size, 0, none⟩ = some (.slice A0a n0a c0a) := bxP0.cell 0
            have sP01 : wA2.cell? ⟨w.heap.size, 1, none⟩ = some (.slice A0b n0b c0b) := bxP0.cell 1
            have sP02 : wA2.cell? ⟨w.heap.size, 2, none⟩ = some (.slice A0c n0c c0c) := bxP0.cell 2
            have sP10 : wA2.cell? ⟨w1.heap.size, 0, none⟩ = some (.slice A1a n1a c1a) := bxP1.cell 0
            have sP11 : wA2.cell? ⟨w1.heap.size, 1, none⟩ = some (.slice A1b n1b c1b) := bxP1.cell 1
            have sP12 : wA2.cell? ⟨w1.heap.size, 2, none⟩ = some (.slice A1c n1c c1c) := bxP1.cell 2
            refine callH4 (by kernel_rfl) (fun K hK => ?_)
            go_simp
            go_at_call 28
            refine (implJoinedGame _ _ _ _ _ _ _ _ _ _ (Nat.le_refl _) (os0.hold fs0).reads (os1.hold fs1).reads).mono ?_; rintro e w27 ⟨vha, vhb, vhc, rfl, oh, hbw27⟩
            obtain ⟨Aha, cha, Ahb, chb, Ahc, chc, rfl, rfl, rfl⟩ := oh.form
            replace hwC := below_then hbw27 hwC.size hwC
            have hside := bz.lt
            replace bxP0 := bxP0.on hbw27
            replace bxP1 := bxP1.on hbw27
            replace bxr := bxr.on hbw27
            replace bxg := bxg.on hbw27
            replace fr := fr.step hbw27
            replace fg := fg.step hbw27
            replace fs0 := fs0.step hbw27
            replace fs1 := fs1.step hbw27
            replace bz := bz.on hbw27
            have fh := Far.refl wA2.heap.size w27
            have sP00 : w27.cell? ⟨w.heap.size, 0, none⟩ = some (.slice A0a n0a c0a) := bxP0.cell 0
            have sP01 : w27.cell? ⟨w.heap.size, 1, none⟩ = some (.slice A0b n0b c0b) := bxP0.cell 1
            have sP02 : w27.cell? ⟨w.heap.size, 2, none⟩ = some (.slice A0c n0c c0c) := bxP0.cell 2
            have sP10 : w27.cell? ⟨w1.heap.size, 0, none⟩ = some (.slice A1a n1a c1a) := bxP1.cell 0
            have sP11 : w27.cell? ⟨w1.heap.size, 1, none⟩ = some (.slice A1b n1b c1b) := bxP1.cell 1
            have sP12 : w27.cell? ⟨w1.heap.size, 2, none⟩ = some (.slice A1c n1c c1c) := bxP1.cell 2
            go_wp2_with fail
            refine hK.out _ _ (⟨sP00, sP01, sP02, sP10, sP11, sP12⟩) (fun hHeld => ?_)
            clear hK K
            try simp only [Act.put, List.setIfInBounds_toArray, List.set_cons_zero, List.set_cons_succ]
            refine takeH5 (v := ?_) (by kernel_rfl) (by kernel_rfl) (by kernel_rfl) (fun _ _ _ h => h) hHeld (by rfl) ?_ ?_
            rotate_left; · (intro w hSw; (try dsimp only at hSw); go_simp; try with_reducible rfl)
            try simp only [Act.put, List.setIfInBounds_toArray, List.set_cons_zero, List.set_cons_succ]
            refine takeH6 (v := ?_) (by kernel_rfl) (by kernel_rfl) (by kernel_rfl) (fun _ _ _ h => h) hHeld (by rfl) ?_ ?_
            rotate_left; · (intro w hSw; (try dsimp only at hSw); go_simp; try with_reducible rfl)
            try simp only [Act.put, List.setIfInBounds_toArray, List.set_cons_zero, List.set_cons_succ]
            refine takeH7 (v := ?_) (by kernel_rfl) (by kernel_rfl) (by kernel_rfl) (fun _ _ _ h => h) hHeld (by rfl) ?_ ?_
            rotate_left; · (intro w hSw; (try dsimp only at hSw); go_simp; try with_reducible rfl)
            try simp only [Act.put, List.setIfInBounds_toArray, List.set_cons_zero, List.set_cons_succ]
            have hsep0 := hneP0
            have hsep1 := hneP1
            have qz0 := bz.cell 0
            have qz1 := bz.cell 1
            have qz2 := bz.cell 2
            have qh0 := bz.hot 0
            have qh1 := bz.hot 1
            have qh2 := bz.hot 2
            simp only [List.getElem?_toArray, List.getElem?_cons_zero, List.getElem?_cons_succ] at qz0 qz1 qz2
            refine callH9 (by kernel_rfl) (fun K hK => ?_)
            go_simp
            refine hK.out _ _ (by refine ⟨?_, ?_, ?_, ?_, ?_, ?_⟩ <;> (refine keepS (keepS (keepS ?_ ?_) ?_) ?_ <;> first | assumption | exact hsep0 | exact hsep1)) (fun hHeld => ?_)
            clear hK K
            try simp only [Act.put, List.setIfInBounds_toArray, List.set_cons_zero, List.set_cons_succ]
            refine takeH10 (v := ?_) (by kernel_rfl) (by kernel_rfl) (by kernel_rfl) (fun _ _ _ h => h) hHeld (by rfl) ?_ ?_
            rotate_left; · (intro w hSw; (try dsimp only at hSw); go_simp; try with_reducible rfl)
            try simp only [Act.put, List.setIfInBounds_toArray, List.set_cons_zero, List.set_cons_succ]
            refine wpAnyH_done (by kernel_rfl) ?_ _
            go_wp2_with fail; go_meet
            refine Lib.hid ⟨_, _, _, _, _, _, _, _, _, rfl, rfl, bz.set3 _ _ _, oh, fh.set3 (by first | exact .inl hside | exact .inr hside) _ _ _, below_set3 hwC hwC.size (by omega) _ _ _, ?_, ?_, ?_, ?_, ?_, ?_⟩
            · exact fr.set3 (.inr (by omega)) _ _ _
            · exact fg.set3 (.inr (by omega)) _ _ _
            · exact bxP0.far3 hneP0 _ _ _
            · exact bxP1.far3 hneP1 _ _ _
            · exact bxr.far3 hner _ _ _
            · exact bxg.far3 hneg _ _ _
        · go_simp
          refine hK.out _ _ (⟨keepA sP00, keepA sP01, keepA sP02, keepA sP10, keepA sP11, keepA sP12⟩) (fun hHeld => ?_)
          clear hK K
          try simp only [Act.put, List.setIfInBounds_toArray, List.set_cons_zero, List.set_cons_succ]
          have hbA : Below w25.heap.size w25 (w25.alloc (.cells #[.slice none 0 0, .slice none 0 0, .slice none 0 0] 44)) := below_alloc (Nat.le_refl _) (Below.refl _ _)
          have bz : Box (w25.alloc (.cells #[.slice none 0 0, .slice none 0 0, .slice none 0 0] 44)) w25.heap.size 44 #[.slice none 0 0, .slice none 0 0, .slice none 0 0] := Box.new _ _ _
          have hsz0 := hwC.size
          replace hwC := below_then hbA hwC.size hwC
          have hneP0 : w.heap.size ≠ w25.heap.size := by have := bxP0.lt; omega
          have hneP1 : w1.heap.size ≠ w25.heap.size := by have := bxP1.lt; omega
          have hner : br ≠ w25.heap.size := by have := bxr.lt; omega
          have hneg : w13.heap.size ≠ w25.heap.size := by have := bxg.lt; omega
          have hszr := fr.size
          have hszg := fg.size
          replace bxP0 := bxP0.on hbA
          replace bxP1 := bxP1.on hbA
          replace bxr := bxr.on hbA
          replace bxg := bxg.on hbA
          replace fr := fr.step hbA
          replace fg := fg.step hbA
          replace fs0 := fs0.step hbA
          clear hbA
          generalize w25.alloc (.cells #[.slice none 0 0, .slice none 0 0, .slice none 0 0] 44) = wA1 at *
          have sP00 : wA1.cell? ⟨w.heap.size, 0, none⟩ = some (.slice A0a n0a c0a) := bxP0.cell 0
          have sP01 : wA1.cell? ⟨w.heap.size, 1, none⟩ = some (.slice A0b n0b c0b) := bxP0.cell 1
          have sP02 : wA1.cell? ⟨w.heap.size, 2, none⟩ = some (.slice A0c n0c c0c) := bxP0.cell 2
          have sP10 : wA1.cell? ⟨w1.heap.size, 0, none⟩ = some (.slice A1a n1a c1a) := bxP1.cell 0
          have sP11 : wA1.cell? ⟨w1.heap.size, 1, none⟩ = some (.slice A1b n1b c1b) := bxP1.cell 1
          have sP12 : wA1.cell? ⟨w1.heap.size, 2, none⟩ = some (.slice A1c n1c c1c) := bxP1.cell 2
          refine callH3 (by kernel_rfl) (fun K hK => ?_)
          go_simp
          go_at_call 27
          refine (toParity _ _ _ _ _ _ (Nat.le_refl _) (ha1.keep (keeps_below hwC)) hm1).mono ?_; rintro e w26 ⟨vs1a, vs1b, vs1c, rfl, os1, hbw26⟩
          obtain ⟨As1a, cs1a, As1b, cs1b, As1c, cs1c, rfl, rfl, rfl⟩ := os1.form
          replace hwC := below_then hbw26 hwC.size hwC
          replace bxP0 := bxP0.on hbw26
          replace bxP1 := bxP1.on hbw26
          replace bxr := bxr.on hbw26
          replace bxg := bxg.on hbw26
          replace fr := fr.step hbw26
          replace fg := fg.step hbw26
          replace fs0 := fs0.step hbw26
          replace bz := bz.on hbw26
          have fs1 := Far.refl wA1.heap.size w26
          have sP00 : w26.cell? ⟨w.heap.size, 0, none⟩ = some (.slice A0a n0a c0a) := bxP0.cell 0
          have sP01 : w26.cell? ⟨w.heap.size, 1, none⟩ = some (.slice A0b n0b c0b) := bxP0.cell 1
          have sP02 : w26.cell? ⟨w.heap.size, 2, none⟩ = some (.slice A0c n0c c0c) := bxP0.cell 2
          have sP10 : w26.cell? ⟨w1.heap.size, 0, none⟩ = some (.slice A1a n1a c1a) := bxP1.cell 0
          have sP11 : w26.cell? ⟨w1.heap.size, 1, none⟩ = some (.slice A1b n1b c1b) := bxP1.cell 1
          have sP12 : w26.cell? ⟨w1.heap.size, 2, none⟩ = some (.slice A1c n1c c1c) := bxP1.cell 2
          go_wp2_with fail
          refine hK.out _ _ (⟨sP00, sP01, sP02, sP10, sP11, sP12⟩) (fun hHeld => ?_)
          clear hK K
          try simp only [Act.put, List.setIfInBounds_toArray, List.set_cons_zero, List.set_cons_succ]
          refine callH4 (by kernel_rfl) (fun K hK => ?_)
          go_simp
          go_at_call 28
          refine (implJoinedGame _ _ _ _ _ _ _ _ _ _ (Nat.le_refl _) (os0.hold fs0).reads (os1.hold fs1).reads).mono ?_; rintro e w27 ⟨vha, vhb, vhc, rfl, oh, hbw27⟩
          obtain ⟨Aha, cha, Ahb, chb, Ahc, chc, rfl, rfl, rfl⟩ := oh.form
          replace hwC := below_then hbw27 hwC.size hwC
          have hside := bz.lt
          replace bxP0 := bxP0.on hbw27
          replace bxP1 := bxP1.on hbw27
          replace bxr := bxr.on hbw27
          replace bxg := bxg.on hbw27
          replace fr := fr.step hbw27
          replace fg := fg.step hbw27
          replace fs0 := fs0.step hbw27
          replace fs1 := fs1.step hbw27
          replace bz := bz.on hbw27
          have fh := Far.refl w26.heap.size w27
          have sP00 : w27.cell? ⟨w.heap.size, 0, none⟩ = some (.slice A0a n0a c0a) := bxP0.cell 0
          have sP01 : w27.cell? ⟨w.heap.size, 1, none⟩ = some (.slice A0b n0b c0b) := bxP0.cell 1
          have sP02 : w27.cell? ⟨w.heap.size, 2, none⟩ = some (.slice A0c n0c c0c) := bxP0.cell 2
          have sP10 : w27.cell? ⟨w1.heap.size, 0, none⟩ = some (.slice A1a n1a c1a) := bxP1.cell 0
          have sP11 : w27.cell? ⟨w1.heap.size, 1, none⟩ = some (.slice A1b n1b c1b) := bxP1.cell 1
          have sP12 : w27.cell? ⟨w1.heap.size, 2, none⟩ = some (.slice A1c n1c c1c) := bxP1.cell 2
          go_wp2_with fail
          refine hK.out _ _ (⟨sP00, sP01, sP02, sP10, sP11, sP12⟩) (fun hHeld => ?_)
          clear hK K
          try simp only [Act.put, List.setIfInBounds_toArray, List.set_cons_zero, List.set_cons_succ]
          refine takeH5 (v := ?_) (by kernel_rfl) (by kernel_rfl) (by kernel_rfl) (fun _ _ _ h => h) hHeld (by rfl) ?_ ?_
          rotate_left; · (intro w hSw; (try dsimp only at hSw); go_simp; try with_reducible rfl)
          try simp only [Act.put, List.setIfInBounds_toArray, List.set_cons_zero, List.set_cons_succ]
          refine takeH6 (v := ?_) (by kernel_rfl) (by kernel_rfl) (by kernel_rfl) (fun _ _ _ h => h) hHeld (by rfl) ?_ ?_
          rotate_left; · (intro w hSw; (try dsimp only at hSw); go_simp; try with_reducible rfl)
          try simp only [Act.put, List.setIfInBounds_toArray, List.set_cons_zero, List.set_cons_succ]
          refine takeH7 (v := ?_) (by kernel_rfl) (by kernel_rfl) (by kernel_rfl) (fun _ _ _ h => h) hHeld (by rfl) ?_ ?_
          rotate_left; · (intro w hSw; (try dsimp only at hSw); go_simp; try with_reducible rfl)
          try simp only [Act.put, List.setIfInBounds_toArray, List.set_cons_zero, List.set_cons_succ]
          have hsep0 := hneP0
          have hsep1 := hneP1
          have qz0 := bz.cell 0
          have qz1 := bz.cell 1
          have qz2 := bz.cell 2
          have qh0 := bz.hot 0
          have qh1 := bz.hot 1
          have qh2 := bz.hot 2
          simp only [List.getElem?_toArray, List.getElem?_cons_zero, List.getElem?_cons_succ] at qz0 qz1 qz2
          refine callH9 (by kernel_rfl) (fun K hK => ?_)
          go_simp
          refine hK.out _ _ (by refine ⟨?_, ?_, ?_, ?_, ?_, ?_⟩ <;> (refine keepS (keepS (keepS ?_ ?_) ?_) ?_ <;> first | assumption | exact hsep0 | exact hsep1)) (fun hHeld => ?_)
          clear hK K
          try simp only [Act.put, List.setIfInBounds_toArray, List.set_cons_zero, List.set_cons_succ]
          refine takeH10 (v := ?_) (by kernel_rfl) (by kernel_rfl) (by kernel_rfl) (fun _ _ _ h => h) hHeld (by rfl) ?_ ?_
          rotate_left; · (intro w hSw; (try dsimp only at hSw); go_simp; try with_reducible rfl)
          try simp only [Act.put, List.setIfInBounds_toArray, List.set_cons_zero, List.set_cons_succ]
          refine wpAnyH_done (by kernel_rfl) ?_ _
          go_wp2_with fail; go_meet
          refine Lib.hid ⟨_, _, _, _, _, _, _, _, _, rfl, rfl, bz.set3 _ _ _, oh, fh.set3 (by first | exact .inl hside | exact .inr hside) _ _ _, below_set3 hwC hwC.size (by omega) _ _ _, ?_, ?_, ?_, ?_, ?_, ?_⟩
          · exact fr.set3 (.inr (by omega)) _ _ _
          · exact fg.set3 (.inr (by omega)) _ _ _
          · exact bxP0.far3 hneP0 _ _ _
          · exact bxP1.far3 hneP1 _ _ _
          · exact bxr.far3 hner _ _ _
          · exact bxg.far3 hneg _ _ _
      · go_simp
        refine hK.out _ _ (⟨keepA sP00, keepA sP01, keepA sP02, keepA sP10, keepA sP11, keepA sP12⟩) (fun hHeld => ?_)
        clear hK K
        try simp only [Act.put, List.setIfInBounds_toArray, List.set_cons_zero, List.set_cons_succ]
        have hbA : Below wD.heap.size wD (wD.alloc (.cells #[.slice none 0 0, .slice none 0 0, .slice none 0 0] 44)) := below_alloc (Nat.le_refl _) (Below.refl _ _)
        have bz : Box (wD.alloc (.cells #[.slice none 0 0, .slice none 0 0, .slice none 0 0] 44)) wD.heap.size 44 #[.slice none 0 0, .slice none 0 0, .slice none 0 0] := Box.new _ _ _
        have hsz0 := hwC.size
        replace hwC := below_then hbA hwC.size hwC
        have hneP0 : w.heap.size ≠ wD.heap.size := by have := bxP0.lt; omega
        have hneP1 : w1.heap.size ≠ wD.heap.size := by have := bxP1.lt; omega
        have hner : br ≠ wD.heap.size := by have := bxr.lt; omega
        have hneg : w13.heap.size ≠ wD.heap.size := by have := bxg.lt; omega
        have hszr := fr.size
        have hszg := fg.size
        replace bxP0 := bxP0.on hbA
        replace bxP1 := bxP1.on hbA
        replace bxr := bxr.on hbA
        replace bxg := bxg.on hbA
        replace fr := fr.step hbA
        replace fg := fg.step hbA
        clear hbA
        generalize wD.alloc (.cells #[.slice none 0 0, .slice none 0 0, .slice none 0 0] 44) = wA0 at *
        have sP00 : wA0.cell? ⟨w.heap.size, 0, none⟩ = some (.slice A0a n0a c0a) := bxP0.cell 0
        have sP01 : wA0.cell? ⟨w.heap.size, 1, none⟩ = some (.slice A0b n0b c0b) := bxP0.cell 1
        have sP02 : wA0.cell? ⟨w.heap.size, 2, none⟩ = some (.slice A0c n0c c0c) := bxP0.cell 2
        have sP10 : wA0.cell? ⟨w1.heap.size, 0, none⟩ = some (.slice A1a n1a c1a) := bxP1.cell 0
        have sP11 : wA0.cell? ⟨w1.heap.size, 1, none⟩ = some (.slice A1b n1b c1b) := bxP1.cell 1
        have sP12 : wA0.cell? ⟨w1.heap.size, 2, none⟩ = some (.slice A1c n1c c1c) := bxP1.cell 2
        refine callH1 (by kernel_rfl) (fun K hK => ?_)
        go_simp
        go_at_call 27
        refine (toParity _ _ _ _ _ _ (Nat.le_refl _) (ha0.keep (keeps_below hwC)) hm0).mono ?_; rintro e w25 ⟨vs0a, vs0b, vs0c, rfl, os0, hbw25⟩
        obtain ⟨As0a, cs0a, As0b, cs0b, As0c, cs0c, rfl, rfl, rfl⟩ := os0.form
        replace hwC := below_then hbw25 hwC.size hwC
        replace bxP0 := bxP0.on hbw25
        replace bxP1 := bxP1.on hbw25
        replace bxr := bxr.on hbw25
        replace bxg := bxg.on hbw25
        replace fr := fr.step hbw25
        replace fg := fg.step hbw25
        replace bz := bz.on hbw25
        have fs0 := Far.refl wA0.heap.size w25
        have sP00 : w25.cell? ⟨w.heap.size, 0, none⟩ = some (.slice A0a n0a c0a) := bxP0.cell 0
        have sP01 : w25.cell? ⟨w.heap.size, 1, none⟩ = some (.slice A0b n0b c0b) := bxP0.cell 1
        have sP02 : w25.cell? ⟨w.heap.size, 2, none⟩ = some (.slice A0c n0c c0c) := bxP0.cell 2
        have sP10 : w25.cell? ⟨w1.heap.size, 0, none⟩ = some (.slice A1a n1a c1a) := bxP1.cell 0
        have sP11 : w25.cell? ⟨w1.heap.size, 1, none⟩ = some (.slice A1b n1b c1b) := bxP1.cell 1
        have sP12 : w25.cell? ⟨w1.heap.size, 2, none⟩ = some (.slice A1c n1c c1c) := bxP1.cell 2
        go_wp2_with fail
        refine hK.out _ _ (⟨sP00, sP01, sP02, sP10, sP11, sP12⟩) (fun hHeld => ?_)
        clear hK K
        try simp only [Act.put, List.setIfInBounds_toArray, List.set_cons_zero, List.set_cons_succ]
        refine callH3 (by kernel_rfl) (fun K hK => ?_)
        go_simp
        go_at_call 27
        refine (toParity _ _ _ _ _ _ (Nat.le_refl _) (ha1.keep (keeps_below hwC)) hm1).mono ?_; rintro e w26 ⟨vs1a, vs1b, vs1c, rfl, os1, hbw26⟩
        obtain ⟨As1a, cs1a, As1b, cs1b, As1c, cs1c, rfl, rfl, rfl⟩ := os1.form
        replace hwC := below_then hbw26 hwC.size hwC
        replace bxP0 := bxP0.on hbw26
        replace bxP1 := bxP1.on hbw26
        replace bxr := bxr.on hbw26
        replace bxg := bxg.on hbw26
        replace fr := fr.step hbw26
        replace fg := fg.step hbw26
        replace fs0 := fs0.step hbw26
        replace bz := bz.on hbw26
        have fs1 := Far.refl w25.heap.size w26
        have sP00 : w26.cell? ⟨w.heap.size, 0, none⟩ = some (.slice A0a n0a c0a) := bxP0.cell 0
        have sP01 : w26.cell? ⟨w.heap.size, 1, none⟩ = some (.slice A0b n0b c0b) := bxP0.cell 1
        have sP02 : w26.cell? ⟨w.heap.size, 2, none⟩ = some (.slice A0c n0c c0c) := bxP0.cell 2
        have sP10 : w26.cell? ⟨w1.heap.size, 0, none⟩ = some (.slice A1a n1a c1a) := bxP1.cell 0
        have sP11 : w26.cell? ⟨w1.heap.size, 1, none⟩ = some (.slice A1b n1b c1b) := bxP1.cell 1
        have sP12 : w26.cell? ⟨w1.heap.size, 2, none⟩ = some (.slice A1c n1c c1c) := bxP1.cell 2
        go_wp2_with fail
        refine hK.out _ _ (⟨sP00, sP01, sP02, sP10, sP11, sP12⟩) (fun hHeld => ?_)
        clear hK K
        try simp only [Act.put, List.setIfInBounds_toArray, List.set_cons_zero, List.set_cons_succ]
        refine callH4 (by kernel_rfl) (fun K hK => ?_)
        go_simp
        go_at_call 28
        refine (implJoinedGame _ _ _ _ _ _ _ _ _ _ (Nat.le_refl _) (os0.hold fs0).reads (os1.hold fs1).reads).mono ?_; rintro e w27 ⟨vha, vhb, vhc, rfl, oh, hbw27⟩
        obtain ⟨Aha, cha, Ahb, chb, Ahc, chc, rfl, rfl, rfl⟩ := oh.form
        replace hwC := below_then hbw27 hwC.size hwC
        have hside := bz.lt
        replace bxP0 := bxP0.on hbw27
        replace bxP1 := bxP1.on hbw27
        replace bxr := bxr.on hbw27
        replace bxg := bxg.on hbw27
        replace fr := fr.step hbw27
        replace fg := fg.step hbw27
        replace fs0 := fs0.step hbw27
        replace fs1 := fs1.step hbw27
        replace bz := bz.on hbw27
        have fh := Far.refl w26.heap.size w27
        have sP00 : w27.cell? ⟨w.heap.size, 0, none⟩ = some (.slice A0a n0a c0a) := bxP0.cell 0
        have sP01 : w27.cell? ⟨w.heap.size, 1, none⟩ = some (.slice A0b n0b c0b) := bxP0.cell 1
        have sP02 : w27.cell? ⟨w.heap.size, 2, none⟩ = some (.slice A0c n0c c0c) := bxP0.cell 2
        have sP10 : w27.cell? ⟨w1.heap.size, 0, none⟩ = some (.slice A1a n1a c1a) := bxP1.cell 0
        have sP11 : w27.cell? ⟨w1.heap.size, 1, none⟩ = some (.slice A1b n1b c1b) := bxP1.cell 1
        have sP12 : w27.cell? ⟨w1.heap.size, 2, none⟩ = some (.slice A1c n1c c1c) := bxP1.cell 2
        go_wp2_with fail
        refine hK.out _ _ (⟨sP00, sP01, sP02, sP10, sP11, sP12⟩) (fun hHeld => ?_)
        clear hK K
        try simp only [Act.put, List.setIfInBounds_toArray, List.set_cons_zero, List.set_cons_succ]
        refine takeH5 (v := ?_) (by kernel_rfl) (by kernel_rfl) (by kernel_rfl) (fun _ _ _ h => h) hHeld (by rfl) ?_ ?_
        rotate_left; · (intro w hSw; (try dsimp only at hSw); go_simp; try with_reducible rfl)
        try simp only [Act.put, List.setIfInBounds_toArray, List.set_cons_zero, List.set_cons_succ]
        refine takeH6 (v := ?_) (by kernel_rfl) (by kernel_rfl) (by kernel_rfl) (fun _ _ _ h => h) hHeld (by rfl) ?_ ?_
        rotate_left; · (intro w hSw; (try dsimp only at hSw); go_simp; try with_reducible rfl)
        try simp only [Act.put, List.setIfInBounds_toArray, List.set_cons_zero, List.set_cons_succ]
        refine takeH7 (v := ?_) (by kernel_rfl) (by kernel_rfl) (by kernel_rfl) (fun _ _ _ h => h) hHeld (by rfl) ?_ ?_
        rotate_left; · (intro w hSw; (try dsimp only at hSw); go_simp; try with_reducible rfl)
        try simp only [Act.put, List.setIfInBounds_toArray, List.set_cons_zero, List.set_cons_succ]
        have hsep0 := hneP0
        have hsep1 := hneP1
        have qz0 := bz.cell 0
        have qz1 := bz.cell 1
        have qz2 := bz.cell 2
        have qh0 := bz.hot 0
        have qh1 := bz.hot 1
        have qh2 := bz.hot 2
        simp only [List.getElem?_toArray, List.getElem?_cons_zero, List.getElem?_cons_succ] at qz0 qz1 qz2
        refine callH9 (by kernel_rfl) (fun K hK => ?_)
        go_simp
        refine hK.out _ _ (by refine ⟨?_, ?_, ?_, ?_, ?_, ?_⟩ <;> (refine keepS (keepS (keepS ?_ ?_) ?_) ?_ <;> first | assumption | exact hsep0 | exact hsep1)) (fun hHeld => ?_)
        clear hK K
        try simp only [Act.put, List.setIfInBounds_toArray, List.set_cons_zero, List.set_cons_succ]
        refine takeH10 (v := ?_) (by kernel_rfl) (by kernel_rfl) (by kernel_rfl) (fun _ _ _ h => h) hHeld (by rfl) ?_ ?_
        rotate_left; · (intro w hSw; (try dsimp only at hSw); go_simp; try with_reducible rfl)
        try simp only [Act.put, List.setIfInBounds_toArray, List.set_cons_zero, List.set_cons_succ]
        refine wpAnyH_done (by kernel_rfl) ?_ _
        go_wp2_with fail; go_meet
        refine Lib.hid ⟨_, _, _, _, _, _, _, _, _, rfl, rfl, bz.set3 _ _ _, oh, fh.set3 (by first | exact .inl hside | exact .inr hside) _ _ _, below_set3 hwC hwC.size (by omega) _ _ _, ?_, ?_, ?_, ?_, ?_, ?_⟩
        · exact fr.set3 (.inr (by omega)) _ _ _
        · exact fg.set3 (.inr (by omega)) _ _ _
        · exact bxP0.far3 hneP0 _ _ _
        · exact bxP1.far3 hneP1 _ _ _
        · exact bxr.far3 hner _ _ _
        · exact bxg.far3 hneg _ _ _
    case rest =>
      obtain ⟨bh, Aha, Ahb, Ahc, cha, chb, chc, lh, mh, rfl, rfl, bxh, oh, fh, hv, gr, gg, byP0, byP1, byr, byg⟩ := hcut.out
      clear hcut
      clear fr; have fr := gr; clear gr
      clear fg; have fg := gg; clear gg
      clear bxP0; have bxP0 := byP0; clear byP0
      clear bxP1; have bxP1 := byP1; clear byP1
      clear bxr; have bxr := byr; clear byr
      clear bxg; have bxg := byg; clear byg
      have hww28 := hv; clear hv
      generalize wc = w28 at *
      have th := fh.size; have vh := bxh.lt; have zw28 := hww28.size
      have vP0 := bxP0.lt
      have vP1 := bxP1.lt
      have vr := bxr.lt
      have vg := bxg.lt
      have tr := fr.size
      have tg := fg.size
      have qP00 : w28.cell? ⟨w.heap.size, 0, none⟩ = some (.slice A0a n0a c0a) := bxP0.cell 0
      have pP00 : ∀ o, (w28.alloc o).cell? ⟨w.heap.size, 0, none⟩ = some (.slice A0a n0a c0a) := fun o => keepA qP00
      have rP00 : w.heap.size < w28.heap.size := bxP0.lt
      have qP01 : w28.cell? ⟨w.heap.size, 1, none⟩ = some (.slice A0b n0b c0b) := bxP0.cell 1
      have pP01 : ∀ o, (w28.alloc o).cell? ⟨w.heap.size, 1, none⟩ = some (.slice A0b n0b c0b) := fun o => keepA qP01
      have rP01 : w.heap.size < w28.heap.size := bxP0.lt
      have qP02 : w28.cell? ⟨w.heap.size, 2, none⟩ = some (.slice A0c n0c c0c) := bxP0.cell 2
      have pP02 : ∀ o, (w28.alloc o).cell? ⟨w.heap.size, 2, none⟩ = some (.slice A0c n0c c0c) := fun o => keepA qP02
      have rP02 : w.heap.size < w28.heap.size := bxP0.lt
      have qP10 : w28.cell? ⟨w1.heap.size, 0, none⟩ = some (.slice A1a n1a c1a) := bxP1.cell 0
      have pP10 : ∀ o, (w28.alloc o).cell? ⟨w1.heap.size, 0, none⟩ = some (.slice A1a n1a c1a) := fun o => keepA qP10
      have rP10 : w1.heap.size < w28.heap.size := bxP1.lt
      have qP11 : w28.cell? ⟨w1.heap.size, 1, none⟩ = some (.slice A1b n1b c1b) := bxP1.cell 1
      have pP11 : ∀ o, (w28.alloc o).cell? ⟨w1.heap.size, 1, none⟩ = some (.slice A1b n1b c1b) := fun o => keepA qP11
      have rP11 : w1.heap.size < w28.heap.size := bxP1.lt
      have qP12 : w28.cell? ⟨w1.heap.size, 2, none⟩ = some (.slice A1c n1c c1c) := bxP1.cell 2
      have pP12 : ∀ o, (w28.alloc o).cell? ⟨w1.heap.size, 2, none⟩ = some (.slice A1c n1c c1c) := fun o => keepA qP12
      have rP12 : w1.heap.size < w28.heap.size := bxP1.lt
      have qr0 : w28.cell? ⟨br, 0, none⟩ = some (.slice Ara (joinG z0 z1).1.length cra) := bxr.cell 0
      have pr0 : ∀ o, (w28.alloc o).cell? ⟨br, 0, none⟩ = some (.slice Ara (joinG z0 z1).1.length cra) := fun o => keepA qr0
      have rr0 : br < w28.heap.size := bxr.lt
      have qr1 : w28.cell? ⟨br, 1, none⟩ = some (.slice Arb (joinG z0 z1).2.1.length crb) := bxr.cell 1
      have pr1 : ∀ o, (w28.alloc o).cell? ⟨br, 1, none⟩ = some (.slice Arb (joinG z0 z1).2.1.length crb) := fun o => keepA qr1
      have rr1 : br < w28.heap.size := bxr.lt
      have qr2 : w28.cell? ⟨br, 2, none⟩ = some (.slice Arc (joinG z0 z1).2.2.length crc) := bxr.cell 2
      have pr2 : ∀ o, (w28.alloc o).cell? ⟨br, 2, none⟩ = some (.slice Arc (joinG z0 z1).2.2.length crc) := fun o => keepA qr2
      have rr2 : br < w28.heap.size := bxr.lt
      have qg0 : w28.cell? ⟨w13.heap.size, 0, none⟩ = some (.slice Aga (joinG z0 z1).1.length cga) := bxg.cell 0
      have pg0 : ∀ o, (w28.alloc o).cell? ⟨w13.heap.size, 0, none⟩ = some (.slice Aga (joinG z0 z1).1.length cga) := fun o => keepA qg0
      have rg0 : w13.heap.size < w28.heap.size := bxg.lt
      have qg1 : w28.cell? ⟨w13.heap.size, 1, none⟩ = some (.slice Agb (joinG z0 z1).2.1.length cgb) := bxg.cell 1
      have pg1 : ∀ o, (w28.alloc o).cell? ⟨w13.heap.size, 1, none⟩ = some (.slice Agb (joinG z0 z1).2.1.length cgb) := fun o => keepA qg1
      have rg1 : w13.heap.size < w28.heap.size := bxg.lt
      have qg2 : w28.cell? ⟨w13.heap.size, 2, none⟩ = some (.slice Agc (joinG z0 z1).2.2.length cgc) := bxg.cell 2
      have pg2 : ∀ o, (w28.alloc o).cell? ⟨w13.heap.size, 2, none⟩ = some (.slice Agc (joinG z0 z1).2.2.length cgc) := fun o => keepA qg2
      have rg2 : w13.heap.size < w28.heap.size := bxg.lt
      have qh0 : w28.cell? ⟨bh, 0, none⟩ = some (.slice Aha (joinG z0 z1).1.length cha) := bxh.cell 0
      have ph0 : ∀ o, (w28.alloc o).cell? ⟨bh, 0, none⟩ = some (.slice Aha (joinG z0 z1).1.length cha) := fun o => keepA qh0
      have rh0 : bh < w28.heap.size := bxh.lt
      have qh1 : w28.cell? ⟨bh, 1, none⟩ = some (.slice Ahb (joinG z0 z1).2.1.length chb) := bxh.cell 1
      have ph1 : ∀ o, (w28.alloc o).cell? ⟨bh, 1, none⟩ = some (.slice Ahb (joinG z0 z1).2.1.length chb) := fun o => keepA qh1
      have rh1 : bh < w28.heap.size := bxh.lt
      have qh2 : w28.cell? ⟨bh, 2, none⟩ = some (.slice Ahc (joinG z0 z1).2.2.length chc) := bxh.cell 2
      have ph2 : ∀ o, (w28.alloc o).cell? ⟨bh, 2, none⟩ = some (.slice Ahc (joinG z0 z1).2.2.length chc) := fun o => keepA qh2
      have rh2 : bh < w28.heap.size := bxh.lt
      go_wp2_with fail
      clear qP00 pP00 rP00 qP01 pP01 rP01 qP02 pP02 rP02 qP10 pP10 rP10 qP11 pP11 rP11 qP12 pP12 rP12 qr0 pr0 rr0 qr1 pr1 rr1 qr2 pr2 rr2 qg0 pg0 rg0 qg1 pg1 rg1 qg2 pg2 rg2 qh0 ph0 rh0 qh1 ph1 rh1 qh2 ph2 rh2
      refine (eqParity _ _ _ _ _ _ _ _ _ _ (Nat.le_refl _) (oh.hold fh).reads (or.hold fr).reads).mono ?_; rintro e w29 ⟨rfl, hbw29⟩
      have zw29 := hbw29.size
      have hww29 := below_then hbw29 hww28.size hww28
      replace fr := fr.step hbw29
      replace fg := fg.step hbw29
      replace fh := fh.step hbw29
      replace bxP0 := bxP0.below hbw29 bxP0.lt
      replace bxP1 := bxP1.below hbw29 bxP1.lt
      replace bxr := bxr.below hbw29 bxr.lt
      replace bxg := bxg.below hbw29 bxg.lt
      replace bxh := bxh.below hbw29 bxh.lt
      rw [eqPar_self]
      have qP00 : w29.cell? ⟨w.heap.size, 0, none⟩ = some (.slice A0a n0a c0a) := bxP0.cell 0
      have pP00 : ∀ o, (w29.alloc o).cell? ⟨w.heap.size, 0, none⟩ = some (.slice A0a n0a c0a) := fun o => keepA qP00
      have rP00 : w.heap.size < w29.heap.size := bxP0.lt
      have qP01 : w29.cell? ⟨w.heap.size, 1, none⟩ = some (.slice A0b n0b c0b) := bxP0.cell 1
      have pP01 : ∀ o, (w29.alloc o).cell? ⟨w.heap.size, 1, none⟩ = some (.slice A0b n0b c0b) := fun o => keepA qP01
      have rP01 : w.heap.size < w29.heap.size := bxP0.lt
      have qP02 : w29.cell? ⟨w.heap.size, 2, none⟩ = some (.slice A0c n0c c0c) := bxP0.cell 2
      have pP02 : ∀ o, (w29.alloc o).cell? ⟨w.heap.size, 2, none⟩ = some (.slice A0c n0c c0c) := fun o => keepA qP02
      have rP02 : w.heap.size < w29.heap.size := bxP0.lt
      have qP10 : w29.cell? ⟨w1.heap.size, 0, none⟩ = some (.slice A1a n1a c1a) := bxP1.cell 0
      have pP10 : ∀ o, (w29.alloc o).cell? ⟨w1.heap.size, 0, none⟩ = some (.slice A1a n1a c1a) := fun o => keepA qP10
      have rP10 : w1.heap.size < w29.heap.size := bxP1.lt
      have qP11 : w29.cell? ⟨w1.heap.size, 1, none⟩ = some (.slice A1b n1b c1b) := bxP1.cell 1
      have pP11 : ∀ o, (w29.alloc o).cell? ⟨w1.heap.size, 1, none⟩ = some (.slice A1b n1b c1b) := fun o => keepA qP11
      have rP11 : w1.heap.size < w29.heap.size := bxP1.lt
      have qP12 : w29.cell? ⟨w1.heap.size, 2, none⟩ = some (.slice A1c n1c c1c) := bxP1.cell 2
      have pP12 : ∀ o, (w29.alloc o).cell? ⟨w1.heap.size, 2, none⟩ = some (.slice A1c n1c c1c) := fun o => keepA qP12
      have rP12 : w1.heap.size < w29.heap.size := bxP1.lt
      have qr0 : w29.cell? ⟨br, 0, none⟩ = some (.slice Ara (joinG z0 z1).1.length cra) := bxr.cell 0
      have pr0 : ∀ o, (w29.alloc o).cell? ⟨br, 0, none⟩ = some (.slice Ara (joinG z0 z1).1.length cra) := fun o => keepA qr0
      have rr0 : br < w29.heap.size := bxr.lt
      have qr1 : w29.cell? ⟨br, 1, none⟩ = some (.slice Arb (joinG z0 z1).2.1.length crb) := bxr.cell 1
      have pr1 : ∀ o, (w29.alloc o).cell? ⟨br, 1, none⟩ = some (.slice Arb (joinG z0 z1).2.1.length crb) := fun o => keepA qr1
      have rr1 : br < w29.heap.size := bxr.lt
      have qr2 : w29.cell? ⟨br, 2, none⟩ = some (.slice Arc (joinG z0 z1).2.2.length crc) := bxr.cell 2
      have pr2 : ∀ o, (w29.alloc o).cell? ⟨br, 2, none⟩ = some (.slice Arc (joinG z0 z1).2.2.length crc) := fun o => keepA qr2
      have rr2 : br < w29.heap.size := bxr.lt
      have qg0 : w29.cell? ⟨w13.heap.size, 0, none⟩ = some (.slice Aga (joinG z0 z1).1.length cga) := bxg.cell 0
      have pg0 : ∀ o, (w29.alloc o).cell? ⟨w13.heap.size, 0, none⟩ = some (.slice Aga (joinG z0 z1).1.length cga) := fun o => keepA qg0
      have rg0 : w13.heap.size < w29.heap.size := bxg.lt
      have qg1 : w29.cell? ⟨w13.heap.size, 1, none⟩ = some (.slice Agb (joinG z0 z1).2.1.length cgb) := bxg.cell 1
      have pg1 : ∀ o, (w29.alloc o).cell? ⟨w13.heap.size, 1, none⟩ = some (.slice Agb (joinG z0 z1).2.1.length cgb) := fun o => keepA qg1
      have rg1 : w13.heap.size < w29.heap.size := bxg.lt
      have qg2 : w29.cell? ⟨w13.heap.size, 2, none⟩ = some (.slice Agc (joinG z0 z1).2.2.length cgc) := bxg.cell 2
      have pg2 : ∀ o, (w29.alloc o).cell? ⟨w13.heap.size, 2, none⟩ = some (.slice Agc (joinG z0 z1).2.2.length cgc) := fun o => keepA qg2
      have rg2 : w13.heap.size < w29.heap.size := bxg.lt
      have qh0 : w29.cell? ⟨bh, 0, none⟩ = some (.slice Aha (joinG z0 z1).1.length cha) := bxh.cell 0
      have ph0 : ∀ o, (w29.alloc o).cell? ⟨bh, 0, none⟩ = some (.slice Aha (joinG z0 z1).1.length cha) := fun o => keepA qh0
      have rh0 : bh < w29.heap.size := bxh.lt
      have qh1 : w29.cell? ⟨bh, 1, none⟩ = some (.slice Ahb (joinG z0 z1).2.1.length chb) := bxh.cell 1
      have ph1 : ∀ o, (w29.alloc o).cell? ⟨bh, 1, none⟩ = some (.slice Ahb (joinG z0 z1).2.1.length chb) := fun o => keepA qh1
      have rh1 : bh < w29.heap.size := bxh.lt
      have qh2 : w29.cell? ⟨bh, 2, none⟩ = some (.slice Ahc (joinG z0 z1).2.2.length chc) := bxh.cell 2
      have ph2 : ∀ o, (w29.alloc o).cell? ⟨bh, 2, none⟩ = some (.slice Ahc (joinG z0 z1).2.2.length chc) := fun o => keepA qh2
      have rh2 : bh < w29.heap.size := bxh.lt
      go_wp2_with fail
      clear qP00 pP00 rP00 qP01 pP01 rP01 qP02 pP02 rP02 qP10 pP10 rP10 qP11 pP11 rP11 qP12 pP12 rP12 qr0 pr0 rr0 qr1 pr1 rr1 qr2 pr2 rr2 qg0 pg0 rg0 qg1 pg1 rg1 qg2 pg2 rg2 qh0 ph0 rh0 qh1 ph1 rh1 qh2 ph2 rh2
      refine (heldParity _ _ _ (joinG z0 z1) 1 _ _ (Nat.le_refl _) (og.hold fg).reads (by omega) (by omega)).mono ?_; rintro e w30 ⟨rfl, hbw30⟩
      have zw30 := hbw30.size
      have hww30 := below_then hbw30 hww29.size hww29
      replace fr := fr.step hbw30
      replace fg := fg.step hbw30
      replace fh := fh.step hbw30
      replace bxP0 := bxP0.below hbw30 bxP0.lt
      replace bxP1 := bxP1.below hbw30 bxP1.lt
      replace bxr := bxr.below hbw30 bxr.lt
      replace bxg := bxg.below hbw30 bxg.lt
      replace bxh := bxh.below hbw30 bxh.lt
      have qP00 : w30.cell? ⟨w.heap.size, 0, none⟩ = some (.slice A0a n0a c0a) := bxP0.cell 0
      have qP01 : w30.cell? ⟨w.heap.size, 1, none⟩ = some (.slice A0b n0b c0b) := bxP0.cell 1
      have qP02 : w30.cell? ⟨w.heap.size, 2, none⟩ = some (.slice A0c n0c c0c) := bxP0.cell 2
      have qP10 : w30.cell? ⟨w1.heap.size, 0, none⟩ = some (.slice A1a n1a c1a) := bxP1.cell 0
      have qP11 : w30.cell? ⟨w1.heap.size, 1, none⟩ = some (.slice A1b n1b c1b) := bxP1.cell 1
      have qP12 : w30.cell? ⟨w1.heap.size, 2, none⟩ = some (.slice A1c n1c c1c) := bxP1.cell 2
      have qr0 : w30.cell? ⟨br, 0, none⟩ = some (.slice Ara (joinG z0 z1).1.length cra) := bxr.cell 0
      have qr1 : w30.cell? ⟨br, 1, none⟩ = some (.slice Arb (joinG z0 z1).2.1.length crb) := bxr.cell 1
      have qr2 : w30.cell? ⟨br, 2, none⟩ = some (.slice Arc (joinG z0 z1).2.2.length crc) := bxr.cell 2
      have qg0 : w30.cell? ⟨w13.heap.size, 0, none⟩ = some (.slice Aga (joinG z0 z1).1.length cga) := bxg.cell 0
      have qg1 : w30.cell? ⟨w13.heap.size, 1, none⟩ = some (.slice Agb (joinG z0 z1).2.1.length cgb) := bxg.cell 1
      have qg2 : w30.cell? ⟨w13.heap.size, 2, none⟩ = some (.slice Agc (joinG z0 z1).2.2.length cgc) := bxg.cell 2
      have qh0 : w30.cell? ⟨bh, 0, none⟩ = some (.slice Aha (joinG z0 z1).1.length cha) := bxh.cell 0
      have qh1 : w30.cell? ⟨bh, 1, none⟩ = some (.slice Ahb (joinG z0 z1).2.1.length chb) := bxh.cell 1
      have qh2 : w30.cell? ⟨bh, 2, none⟩ = some (.slice Ahc (joinG z0 z1).2.2.length chc) := bxh.cell 2
      go_wp2
      go_ret
      exact ⟨rfl, hww30⟩

theorem own : ownKnob Try.prog.godebug = none := by kernel_rfl
theorem laidOut : laidOutB Try.prog = true := by kernel_rfl
set_option maxRecDepth 100000 in
theorem lifted (os : Os) (started : os.Started) (H : Type) (enc : TypeId × Value → H) :
    ReturnsInHanded {} Try.checked os 4 .any (Rows.fnExactJoinedGameSpec.pre6 enc Try.prog Try.f4 Rows.fnExactJoinedGameRow.domain false) (Rows.fnExactJoinedGameSpec.post enc Try.prog Try.f4 false true false false) := by
  refine returnsInHanded_of_change (C := Try.checked) own started (by kernel_rfl) Try.func4
    (ChangeSpec.witness6 (enc := enc) (C := Try.checked) false ⟨#[], #[.agg #[.slice none 0 0, .slice none 0 0, .slice none 0 0], .agg #[.slice none 0 0, .slice none 0 0, .slice none 0 0]], []⟩ 8 (by kernel_rfl) (by kernel_rfl) (by kernel_rfl) (by kernel_rfl)) ?_
  intro W base args ds gs before hval0 hW hcnd _
  have hval : ∀ (j : Nat) t v, Try.f4.params[j]? = some t → args[j]? = some v → Value.okWide Try.prog W .any base t v := hval0
  have hW' := hW
  obtain ⟨p, q, hA0, hV, rfl, hfz, hnd⟩ := hW
  have hA : DataW.TrodAll enc Try.prog W 0 (fun _ => true) true Try.f4.params.toList args.toList ds p := hA0
  rw [Try.params4] at hA hval
  obtain ⟨v0, vs0, d0, ds0, p0, q0, hargs, rfl, rfl, h0, r0⟩ := trodAll_cons hA
  obtain ⟨v1, vs1, d1, ds1, p1, q1, rfl, rfl, rfl, h1, r1⟩ := trodAll_cons r0
  obtain ⟨rfl, rfl, rfl⟩ := trodAll_nil r1
  obtain rfl : args = #[v0, v1] := by cases args; simp_all
  obtain ⟨rfl, rfl⟩ := trodVars_none hV
  have k0 := h0
  have lt0 : ∀ x ∈ p0, x.block < W.heap.size := by obtain ⟨m, hm⟩ := k0; exact DataW.trod_lt m _ _ _ hm
  obtain ⟨c0, e0, g0, y0, z0, u0, m0, l0, rfl, hy0, hz0, hu0⟩ := open_game Try.underlying40 Try.underlying38 ⟨by kernel_rfl, rfl, by kernel_rfl, rfl, by kernel_rfl, rfl, by kernel_rfl, rfl, by kernel_rfl⟩ (hval 0 40 v0 rfl rfl) h0
  obtain ⟨A0a, n0a, c0a, x0a, rfl, r0a⟩ := ri_of_trod Try.underlying29 Try.underlying2 (by kernel_rfl) hy0
  obtain ⟨A0b, n0b, c0b, x0b, rfl, r0b⟩ := rii_of_trod Try.underlying36 Try.underlying29 Try.underlying2 (by kernel_rfl) (by kernel_rfl) hz0
  obtain ⟨A0c, n0c, c0c, x0c, rfl, r0c⟩ := ri_of_trod Try.underlying29 Try.underlying2 (by kernel_rfl) hu0
  have k1 := h1
  have lt1 : ∀ x ∈ p1, x.block < W.heap.size := by obtain ⟨m, hm⟩ := k1; exact DataW.trod_lt m _ _ _ hm
  obtain ⟨c1, e1, g1, y1, z1, u1, m1, l1, rfl, hy1, hz1, hu1⟩ := open_game Try.underlying40 Try.underlying38 ⟨by kernel_rfl, rfl, by kernel_rfl, rfl, by kernel_rfl, rfl, by kernel_rfl, rfl, by kernel_rfl⟩ (hval 1 40 v1 rfl rfl) h1
  obtain ⟨A1a, n1a, c1a, x1a, rfl, r1a⟩ := ri_of_trod Try.underlying29 Try.underlying2 (by kernel_rfl) hy1
  obtain ⟨A1b, n1b, c1b, x1b, rfl, r1b⟩ := rii_of_trod Try.underlying36 Try.underlying29 Try.underlying2 (by kernel_rfl) (by kernel_rfl) hz1
  obtain ⟨A1c, n1c, c1c, x1c, rfl, r1c⟩ := ri_of_trod Try.underlying29 Try.underlying2 (by kernel_rfl) hu1
  clear hA0 hval0
  refine (walk _ _ _ _ _ _ _ _ _ (x0a, x0b, x0c) _ _ _ _ _ _ _ _ _ (x1a, x1b, x1c) W (RPv.of r0a r0b r0c) (RPv.of r1a r1b r1c)).mono fun e W' ⟨he, bel⟩ => ?_
  subst he
  exact ⟨_, rfl, _, _, _, [], _, [], hW', trodAll_mk1 (shut_bool Try.underlying4 _), (trodAll_cons_mk (Below.trod laidOut (by kernel_rfl) (of_decide_eq_true (by kernel_rfl)) k0 bel lt0) (trodAll_cons_mk (Below.trod laidOut (by kernel_rfl) (of_decide_eq_true (by kernel_rfl)) k1 bel lt1) trodAll_mk0)), rfl, bel.frame _, fun h => by cases h⟩
theorem over : Rows.fnExactJoinedGameRow.holds Try.pinned (OpenSpec.ofChange Rows.fnExactJoinedGameSpec) :=
  OpenClaim.holds_of_wide 4 Try.f4 rfl rfl rfl rfl rfl rfl rfl ⟨rfl, rfl, rfl, rfl, rfl⟩ rfl rfl rfl rfl rfl (by kernel_rfl) Try.func4 (by kernel_rfl)
    (of_decide_eq_true (by kernel_rfl)) (by unfold Func.isWrapper; first | (rw [if_pos (by decide +kernel)]; kernel_rfl) | (rw [if_neg (by decide +kernel)]; exact ⟨rfl, rfl⟩))
    (fun os started H enc _ => lifted os started H enc)
/-- the statement -/
theorem proved : Rows.FnExactJoinedGameSaid := over
end Go.Proofs.Ytfjhkjikfjpnpaa.fnExactJoinedGame

