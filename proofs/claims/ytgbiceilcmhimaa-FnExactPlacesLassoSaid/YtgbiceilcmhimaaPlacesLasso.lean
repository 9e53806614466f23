/- FnExactPlacesLasso: for every input the law returns true, and each argument reads as it read before. No condition. -/
import Derived.Test.YtgbiceilcmhimaaLasso
import Derived.Test.YtgbiceilcmhimaaPlaces4
import Derived.Test.YtgbiceilcmhimaaOpenQ
import Derived.Test.YtgbiceilcmhimaaOpen
import Derived.Deep.RegionHeld3
import Derived.Deep.DeepCutAuto
import Derived.Test.YtgbiceilcmhimaaCut
namespace Go.Proofs.Ytgbiceilcmhimaa.fnExactPlacesLasso
open Go.ChangeShapes Go.WideShapes Go.ChangeAt Go.RowKit

set_option maxRecDepth 100000 in
set_option maxHeartbeats 1600000 in
theorem walk (A0 : Option Addr) (n0 c0 : Nat) (z0 : List PlaceD) (A1a A1b : Option Addr) (n1a c1a n1b c1b : Nat) (z1 : TwoD) (w : World) (ha0 : RQS w A0 n0 c0 z0) (ha1 : RTv w (.slice A1a n1a c1a) (.slice A1b n1b c1b) z1) :
    Calls Try.prog 3 #[.slice A0 n0 c0, .agg #[.slice A1a n1a c1a, .slice A1b n1b c1b]] w fun e w' => e = .returned (.bool true) ∧ Below w.heap.size w w' := by
  have b0 := ha0.cap; have t0 := ha0.top
  by_cases hy0 : ¬ ((szQs z0 : Nat) : Int) ≤ 1048576
  · have E0 := Lib.hid (szF_no hy0)
    have hww := Below.refl w.heap.size w
    go_enter Try.func3, Try.ntmps3
    go_wp2_with fail
    have hww1 : Below w.heap.size w (w.alloc (.cells #[.slice A1a n1a c1a, .slice A1b n1b c1b] 25)) := below_alloc (Nat.le_refl _) hww
    have zw1 : w.heap.size + 1 = (w.alloc (.cells #[.slice A1a n1a c1a, .slice A1b n1b c1b] 25)).heap.size := by simp
    have bxP1 := Box.new w 25 #[.slice A1a n1a c1a, .slice A1b n1b c1b]
    generalize (w.alloc (.cells #[.slice A1a n1a c1a, .slice A1b n1b c1b] 25)) = w1 at hww1 zw1 bxP1 ⊢
    refine (szPlaceS _ _ _ _ _ _ _ (Nat.le_refl _) (ha0.keep (keeps_below hww1)) (by omega) (by omega)).mono ?_; rintro e w2 ⟨rfl, hbw2⟩
    have zw2 := hbw2.size
    have hww2 := below_then hbw2 hww1.size hww1
    replace bxP1 := bxP1.below hbw2 bxP1.lt
    rw [E0.out]
    go_wp2
    go_ret
    exact ⟨rfl, hww2⟩
  have hz0 : ((szQs z0 : Nat) : Int) ≤ 1048576 := by omega
  have hm0 : szQs z0 ≤ 1048576 := by omega
  have E0 := Lib.hid (szF_yes hz0)
  clear hy0
  by_cases hy1 : ¬ (((szT z1) : Nat) : Int) ≤ 1048576 - ((szQs z0 : Nat) : Int)
  · have E1 := Lib.hid (szF_no hy1)
    have hww := Below.refl w.heap.size w
    go_enter Try.func3, Try.ntmps3
    go_wp2_with fail
    have hww1 : Below w.heap.size w (w.alloc (.cells #[.slice A1a n1a c1a, .slice A1b n1b c1b] 25)) := below_alloc (Nat.le_refl _) hww
    have zw1 : w.heap.size + 1 = (w.alloc (.cells #[.slice A1a n1a c1a, .slice A1b n1b c1b] 25)).heap.size := by simp
    have bxP1 := Box.new w 25 #[.slice A1a n1a c1a, .slice A1b n1b c1b]
    generalize (w.alloc (.cells #[.slice A1a n1a c1a, .slice A1b n1b c1b] 25)) = w1 at hww1 zw1 bxP1 ⊢
    refine (szPlaceS _ _ _ _ _ _ _ (Nat.le_refl _) (ha0.keep (keeps_below hww1)) (by omega) (by omega)).mono ?_; rintro e w2 ⟨rfl, hbw2⟩
    have zw2 := hbw2.size
    have hww2 := below_then hbw2 hww1.size hww1
    replace bxP1 := bxP1.below hbw2 bxP1.lt
    rw [E0.out]
    have qP10 : w2.cell? ⟨w.heap.size, 0, none⟩ = some (.slice A1a n1a c1a) := bxP1.cell 0
    have pP10 : ∀ o, (w2.alloc o).cell? ⟨w.heap.size, 0, none⟩ = some (.slice A1a n1a c1a) := fun o => keepA qP10
    have rP10 : w.heap.size < w2.heap.size := bxP1.lt
    have qP11 : w2.cell? ⟨w.heap.size, 1, none⟩ = some (.slice A1b n1b c1b) := bxP1.cell 1
    have pP11 : ∀ o, (w2.alloc o).cell? ⟨w.heap.size, 1, none⟩ = some (.slice A1b n1b c1b) := fun o => keepA qP11
    have rP11 : w.heap.size < w2.heap.size := bxP1.lt
    go_wp2_with fail
    clear qP10 pP10 rP10 qP11 pP11 rP11
    refine (szLassoT _ _ _ _ _ _ (Nat.le_refl _) (ha1.keep (keeps_below hww2)) (by omega) (by omega)).mono ?_; rintro e w3 ⟨rfl, hbw3⟩
    have zw3 := hbw3.size
    have hww3 := below_then hbw3 hww2.size hww2
    replace bxP1 := bxP1.below hbw3 bxP1.lt
    rw [E1.out]
    go_wp2
    go_ret
    exact ⟨rfl, hww3⟩
  have hz1 : (((szT z1) : Nat) : Int) ≤ 1048576 - ((szQs z0 : Nat) : Int) := by omega
  have hm1 : (szT z1) ≤ 1048576 := by omega
  have E1 := Lib.hid (szF_yes hz1)
  clear hy1
  have hR := plR_tot z0 z1
  have hT : totQ z0 = szQs z0 := rfl
  have hT2 : totT z1 = szT z1 := rfl
  have hww := Below.refl w.heap.size w
  go_enter Try.func3, Try.ntmps3
  go_wp2_with fail
  have hww1 : Below w.heap.size w (w.alloc (.cells #[.slice A1a n1a c1a, .slice A1b n1b c1b] 25)) := below_alloc (Nat.le_refl _) hww
  have zw1 : w.heap.size + 1 = (w.alloc (.cells #[.slice A1a n1a c1a, .slice A1b n1b c1b] 25)).heap.size := by simp
  have bxP1 := Box.new w 25 #[.slice A1a n1a c1a, .slice A1b n1b c1b]
  generalize (w.alloc (.cells #[.slice A1a n1a c1a, .slice A1b n1b c1b] 25)) = w1 at hww1 zw1 bxP1 ⊢
  refine (szPlaceS _ _ _ _ _ _ _ (Nat.le_refl _) (ha0.keep (keeps_below hww1)) (by omega) (by omega)).mono ?_; rintro e w2 ⟨rfl, hbw2⟩
  have zw2 := hbw2.size
  have hww2 := below_then hbw2 hww1.size hww1
  replace bxP1 := bxP1.below hbw2 bxP1.lt
  rw [E0.out]
  have qP10 : w2.cell? ⟨w.heap.size, 0, none⟩ = some (.slice A1a n1a c1a) := bxP1.cell 0
  have pP10 : ∀ o, (w2.alloc o).cell? ⟨w.heap.size, 0, none⟩ = some (.slice A1a n1a c1a) := fun o => keepA qP10
  have rP10 : w.heap.size < w2.heap.size := bxP1.lt
  have qP11 : w2.cell? ⟨w.heap.size, 1, none⟩ = some (.slice A1b n1b c1b) := bxP1.cell 1
  have pP11 : ∀ o, (w2.alloc o).cell? ⟨w.heap.size, 1, none⟩ = some (.slice A1b n1b c1b) := fun o => keepA qP11
  have rP11 : w.heap.size < w2.heap.size := bxP1.lt
  go_wp2_with fail
  clear qP10 pP10 rP10 qP11 pP11 rP11
  refine (szLassoT _ _ _ _ _ _ (Nat.le_refl _) (ha1.keep (keeps_below hww2)) (by omega) (by omega)).mono ?_; rintro e w3 ⟨rfl, hbw3⟩
  have zw3 := hbw3.size
  have hww3 := below_then hbw3 hww2.size hww2
  replace bxP1 := bxP1.below hbw3 bxP1.lt
  rw [E1.out]
  have qP10 : w3.cell? ⟨w.heap.size, 0, none⟩ = some (.slice A1a n1a c1a) := bxP1.cell 0
  have pP10 : ∀ o, (w3.alloc o).cell? ⟨w.heap.size, 0, none⟩ = some (.slice A1a n1a c1a) := fun o => keepA qP10
  have rP10 : w.heap.size < w3.heap.size := bxP1.lt
  have qP11 : w3.cell? ⟨w.heap.size, 1, none⟩ = some (.slice A1b n1b c1b) := bxP1.cell 1
  have pP11 : ∀ o, (w3.alloc o).cell? ⟨w.heap.size, 1, none⟩ = some (.slice A1b n1b c1b) := fun o => keepA qP11
  have rP11 : w.heap.size < w3.heap.size := bxP1.lt
  go_wp2_with fail
  clear qP10 pP10 rP10 qP11 pP11 rP11
  have qP10 : w3.cell? ⟨w.heap.size, 0, none⟩ = some (.slice A1a n1a c1a) := bxP1.cell 0
  have qP11 : w3.cell? ⟨w.heap.size, 1, none⟩ = some (.slice A1b n1b c1b) := bxP1.cell 1
  have rP1 : w.heap.size < w3.heap.size := bxP1.lt
  go_upto_region 8 with (fail)
  go_cut [6] (fun u0 wx => Hid (∃ (br : Nat) (Ara Arb : Option Addr) (cra crb : Nat) (lr : Nat) (mr : World), u0 = .pointer (some ⟨br, 0, none⟩) ∧ Box wx br 28 #[.slice Ara (plR z0 z1).1.length cra, .slice Arb (plR z0 z1).2.length crb] ∧ OT mr lr (.slice Ara (plR z0 z1).1.length cra) (.slice Arb (plR z0 z1).2.length crb) (plR z0 z1) ∧ Far lr mr wx ∧ Below w.heap.size w wx ∧ Box wx (w.heap.size) 25 #[.slice A1a n1a c1a, .slice A1b n1b c1b]))
  case first =>
    go_region_held3 (fun w' => w'.cell? ⟨w.heap.size, 0, none⟩ = some (.slice A1a n1a c1a) ∧ w'.cell? ⟨w.heap.size, 1, none⟩ = some (.slice A1b n1b c1b))
      (refine ⟨?_, ?_⟩ <;> repeat (first | with_reducible assumption | with_reducible refine keepD ?_ | with_reducible refine keepA ?_ | (with_reducible refine keepS ?_ ?_; rotate_left; (first | omega | (simp; omega)))))
      (first
        | (go_at_call 18
           refine (toPlaceS _ _ _ _ _ _ (Nat.le_refl _) (ha0.keep (keeps_below (by repeat (first | with_reducible assumption | with_reducible exact hww3 | with_reducible refine Below.drew ?_ | with_reducible refine below_alloc (Nat.le_refl _) ?_)))) hm0).mono ?_; rintro e w4 ⟨vy0, rfl, oy0, hbw4⟩
           obtain ⟨Ay0, cy0, rfl⟩ := oy0.form
           first | have hBw4 : Below w3.heap.size w3 w4 := hbw4 | have hBw4 : Below w3.heap.size w3 w4 := below_undrew hbw4 | have hBw4 : Below w3.heap.size w3 w4 := below_unalloc hbw4 | have hBw4 : Below w3.heap.size w3 w4 := below_unalloc (below_undrew hbw4)
           first | have bz := Box.on bz hBw4 | have bz := Box.allocT hbw4 | have bz := Box.allocD hbw4 | skip
           try (have qz0 := bz.cell 0; have qz1 := bz.cell 1; have qh0 := bz.hot 0; have qh1 := bz.hot 1; have qzl := bz.lt)
           have zw4 := hBw4.size
           have hww4 := below_then hBw4 hww3.size hww3
           replace bxP1 := bxP1.on hBw4
           have fy0 := fun lo => Far.refl lo w4
           have qP10 : w4.cell? ⟨w.heap.size, 0, none⟩ = some (.slice A1a n1a c1a) := bxP1.cell 0
           have qP11 : w4.cell? ⟨w.heap.size, 1, none⟩ = some (.slice A1b n1b c1b) := bxP1.cell 1
           have rP1 : w.heap.size < w4.heap.size := bxP1.lt)
        | (go_at_call 19
           refine (toLassoT _ _ _ _ _ (Nat.le_refl _) (ha1.keep (keeps_below (by repeat (first | with_reducible assumption | with_reducible exact hww4 | with_reducible refine Below.drew ?_ | with_reducible refine below_alloc (Nat.le_refl _) ?_)))) hm1).mono ?_; rintro e w5 ⟨vy1a, vy1b, rfl, oy1, hbw5⟩
           obtain ⟨Ay1a, cy1a, Ay1b, cy1b, rfl, rfl⟩ := oy1.form
           first | have hBw5 : Below w4.heap.size w4 w5 := hbw5 | have hBw5 : Below w4.heap.size w4 w5 := below_undrew hbw5 | have hBw5 : Below w4.heap.size w4 w5 := below_unalloc hbw5 | have hBw5 : Below w4.heap.size w4 w5 := below_unalloc (below_undrew hbw5)
           first | have bz := Box.on bz hBw5 | have bz := Box.allocT hbw5 | have bz := Box.allocD hbw5 | skip
           try (have qz0 := bz.cell 0; have qz1 := bz.cell 1; have qh0 := bz.hot 0; have qh1 := bz.hot 1; have qzl := bz.lt)
           have zw5 := hBw5.size
           have hww5 := below_then hBw5 hww4.size hww4
           replace bxP1 := bxP1.on hBw5
           replace fy0 := fun lo => (fy0 lo).step hBw5
           have fy1 := fun lo => Far.refl lo w5
           have qP10 : w5.cell? ⟨w.heap.size, 0, none⟩ = some (.slice A1a n1a c1a) := bxP1.cell 0
           have qP11 : w5.cell? ⟨w.heap.size, 1, none⟩ = some (.slice A1b n1b c1b) := bxP1.cell 1
           have rP1 : w.heap.size < w5.heap.size := bxP1.lt)
        | (go_at_call 17
           refine (specPlacesLasso _ _ _ _ _ _ _ _ _ (Nat.le_refl _) (oy0.hold (by first | exact fy0 _ | exact Far.alloc (fy0 _) _)).reads (oy1.hold (by first | exact fy1 _ | exact Far.alloc (fy1 _) _)).reads).mono ?_; rintro e w6 ⟨vra, vrb, rfl, or, hbw6⟩
           obtain ⟨Ara, cra, Arb, crb, rfl, rfl⟩ := or.form
           first | have hBw6 : Below w5.heap.size w5 w6 := hbw6 | have hBw6 : Below w5.heap.size w5 w6 := below_undrew hbw6 | have hBw6 : Below w5.heap.size w5 w6 := below_unalloc hbw6 | have hBw6 : Below w5.heap.size w5 w6 := below_unalloc (below_undrew hbw6)
           first | have bz := Box.on bz hBw6 | have bz := Box.allocT hbw6 | have bz := Box.allocD hbw6 | skip
           try (have qz0 := bz.cell 0; have qz1 := bz.cell 1; have qh0 := bz.hot 0; have qh1 := bz.hot 1; have qzl := bz.lt)
           have zw6 := hBw6.size
           have hww6 := below_then hBw6 hww5.size hww5
           replace bxP1 := bxP1.on hBw6
           replace fy0 := fun lo => (fy0 lo).step hBw6
           replace fy1 := fun lo => (fy1 lo).step hBw6
           have qP10 : w6.cell? ⟨w.heap.size, 0, none⟩ = some (.slice A1a n1a c1a) := bxP1.cell 0
           have qP11 : w6.cell? ⟨w.heap.size, 1, none⟩ = some (.slice A1b n1b c1b) := bxP1.cell 1
           have rP1 : w.heap.size < w6.heap.size := bxP1.lt))
    all_goals (go_wp2_with fail; go_meet)
    all_goals
      first
        | (refine Lib.hid ⟨w3.heap.size, _, _, _, _, _, _, rfl, (bz.set2 _ _), or, ?_, ?_, ?_⟩
           · (refine Far.set (Far.set (Far.refl _ _) (Or.inl ?_) _) (Or.inl ?_) _ <;> first | exact qzl | (simp; done) | (simp; omega))
           · (have hh := hww3.size; refine below_set ?_ (below_set ?_ (?_)) <;> first | exact hww6 | exact hh)
           · (refine Box.far (Box.far (bxP1) ?_ _) ?_ _ <;> first | omega | (simp; omega)))
        | (refine Lib.hid ⟨w4.heap.size, _, _, _, _, _, _, rfl, (bz.set2 _ _), or, ?_, ?_, ?_⟩
           · (refine Far.set (Far.set (Far.refl _ _) (Or.inl ?_) _) (Or.inl ?_) _ <;> first | exact qzl | (simp; done) | (simp; omega))
           · (have hh := hww4.size; refine below_set ?_ (below_set ?_ (?_)) <;> first | exact hww6 | exact hh)
           · (refine Box.far (Box.far (bxP1) ?_ _) ?_ _ <;> first | omega | (simp; omega)))
        | (refine Lib.hid ⟨w5.heap.size, _, _, _, _, _, _, rfl, (bz.set2 _ _), or, ?_, ?_, ?_⟩
           · (refine Far.set (Far.set (Far.refl _ _) (Or.inl ?_) _) (Or.inl ?_) _ <;> first | exact qzl | (simp; done) | (simp; omega))
           · (have hh := hww5.size; refine below_set ?_ (below_set ?_ (?_)) <;> first | exact hww6 | exact hh)
           · (refine Box.far (Box.far (bxP1) ?_ _) ?_ _ <;> first | omega | (simp; omega)))
        | (refine Lib.hid ⟨w6.heap.size, _, _, _, _, _, _, rfl, (Box.new _ _ _), or, ?_, ?_, ?_⟩
           · exact Far.alloc (Far.refl _ _) _
           · exact below_alloc (Nat.le_refl _) hww6
           · exact Box.alloc bxP1 _)
  case rest =>
    obtain ⟨br, Ara, Arb, cra, crb, lr, mr, rfl, bxr, or, fr, hv, byP1⟩ := hcut.out
    clear hcut
    clear bxP1; have bxP1 := byP1; clear byP1
    have hww7 := hv; clear hv
    generalize wc = w7 at *
    have tr := fr.size; have vr := bxr.lt; have zw7 := hww7.size
    have vP1 := bxP1.lt
    clear qP10 qP11 rP1
    have qP10 : w7.cell? ⟨w.heap.size, 0, none⟩ = some (.slice A1a n1a c1a) := bxP1.cell 0
    have pP10 : ∀ o, (w7.alloc o).cell? ⟨w.heap.size, 0, none⟩ = some (.slice A1a n1a c1a) := fun o => keepA qP10
    have rP10 : w.heap.size < w7.heap.size := bxP1.lt
    have qP11 : w7.cell? ⟨w.heap.size, 1, none⟩ = some (.slice A1b n1b c1b) := bxP1.cell 1
    have pP11 : ∀ o, (w7.alloc o).cell? ⟨w.heap.size, 1, none⟩ = some (.slice A1b n1b c1b) := fun o => keepA qP11
    have rP11 : w.heap.size < w7.heap.size := bxP1.lt
    have qr0 : w7.cell? ⟨br, 0, none⟩ = some (.slice Ara (plR z0 z1).1.length cra) := bxr.cell 0
    have pr0 : ∀ o, (w7.alloc o).cell? ⟨br, 0, none⟩ = some (.slice Ara (plR z0 z1).1.length cra) := fun o => keepA qr0
    have rr0 : br < w7.heap.size := bxr.lt
    have qr1 : w7.cell? ⟨br, 1, none⟩ = some (.slice Arb (plR z0 z1).2.length crb) := bxr.cell 1
    have pr1 : ∀ o, (w7.alloc o).cell? ⟨br, 1, none⟩ = some (.slice Arb (plR z0 z1).2.length crb) := fun o => keepA qr1
    have rr1 : br < w7.heap.size := bxr.lt
    go_wp2_with fail
    clear qP10 pP10 rP10 qP11 pP11 rP11 qr0 pr0 rr0 qr1 pr1 rr1
    refine (toPlaceS _ _ _ _ _ _ (Nat.le_refl _) (ha0.keep (keeps_below hww7)) hm0).mono ?_; rintro e w8 ⟨vx0, rfl, ox0, hbw8⟩
    obtain ⟨Ax0, cx0, rfl⟩ := ox0.form
    have zw8 := hbw8.size
    have hww8 := below_then hbw8 hww7.size hww7
    replace fr := fr.step hbw8
    replace bxP1 := bxP1.below hbw8 bxP1.lt
    replace bxr := bxr.below hbw8 bxr.lt
    have fx0 := Far.refl w7.heap.size w8
    have qP10 : w8.cell? ⟨w.heap.size, 0, none⟩ = some (.slice A1a n1a c1a) := bxP1.cell 0
    have pP10 : ∀ o, (w8.alloc o).cell? ⟨w.heap.size, 0, none⟩ = some (.slice A1a n1a c1a) := fun o => keepA qP10
    have rP10 : w.heap.size < w8.heap.size := bxP1.lt
    have qP11 : w8.cell? ⟨w.heap.size, 1, none⟩ = some (.slice A1b n1b c1b) := bxP1.cell 1
    have pP11 : ∀ o, (w8.alloc o).cell? ⟨w.heap.size, 1, none⟩ = some (.slice A1b n1b c1b) := fun o => keepA qP11
    have rP11 : w.heap.size < w8.heap.size := bxP1.lt
    have qr0 : w8.cell? ⟨br, 0, none⟩ = some (.slice Ara (plR z0 z1).1.length cra) := bxr.cell 0
    have pr0 : ∀ o, (w8.alloc o).cell? ⟨br, 0, none⟩ = some (.slice Ara (plR z0 z1).1.length cra) := fun o => keepA qr0
    have rr0 : br < w8.heap.size := bxr.lt
    have qr1 : w8.cell? ⟨br, 1, none⟩ = some (.slice Arb (plR z0 z1).2.length crb) := bxr.cell 1
    have pr1 : ∀ o, (w8.alloc o).cell? ⟨br, 1, none⟩ = some (.slice Arb (plR z0 z1).2.length crb) := fun o => keepA qr1
    have rr1 : br < w8.heap.size := bxr.lt
    go_wp2_with fail
    clear qP10 pP10 rP10 qP11 pP11 rP11 qr0 pr0 rr0 qr1 pr1 rr1
    refine (toLassoT _ _ _ _ _ (Nat.le_refl _) (ha1.keep (keeps_below hww8)) hm1).mono ?_; rintro e w9 ⟨vx1a, vx1b, rfl, ox1, hbw9⟩
    obtain ⟨Ax1a, cx1a, Ax1b, cx1b, rfl, rfl⟩ := ox1.form
    have zw9 := hbw9.size
    have hww9 := below_then hbw9 hww8.size hww8
    replace fr := fr.step hbw9
    replace fx0 := fx0.step hbw9
    replace bxP1 := bxP1.below hbw9 bxP1.lt
    replace bxr := bxr.below hbw9 bxr.lt
    have fx1 := Far.refl w8.heap.size w9
    have qP10 : w9.cell? ⟨w.heap.size, 0, none⟩ = some (.slice A1a n1a c1a) := bxP1.cell 0
    have pP10 : ∀ o, (w9.alloc o).cell? ⟨w.heap.size, 0, none⟩ = some (.slice A1a n1a c1a) := fun o => keepA qP10
    have rP10 : w.heap.size < w9.heap.size := bxP1.lt
    have qP11 : w9.cell? ⟨w.heap.size, 1, none⟩ = some (.slice A1b n1b c1b) := bxP1.cell 1
    have pP11 : ∀ o, (w9.alloc o).cell? ⟨w.heap.size, 1, none⟩ = some (.slice A1b n1b c1b) := fun o => keepA qP11
    have rP11 : w.heap.size < w9.heap.size := bxP1.lt
    have qr0 : w9.cell? ⟨br, 0, none⟩ = some (.slice Ara (plR z0 z1).1.length cra) := bxr.cell 0
    have pr0 : ∀ o, (w9.alloc o).cell? ⟨br, 0, none⟩ = some (.slice Ara (plR z0 z1).1.length cra) := fun o => keepA qr0
    have rr0 : br < w9.heap.size := bxr.lt
    have qr1 : w9.cell? ⟨br, 1, none⟩ = some (.slice Arb (plR z0 z1).2.length crb) := bxr.cell 1
    have pr1 : ∀ o, (w9.alloc o).cell? ⟨br, 1, none⟩ = some (.slice Arb (plR z0 z1).2.length crb) := fun o => keepA qr1
    have rr1 : br < w9.heap.size := bxr.lt
    go_wp2_with fail
    clear qP10 pP10 rP10 qP11 pP11 rP11 qr0 pr0 rr0 qr1 pr1 rr1
    have hww10 : Below w.heap.size w (w9.alloc (.cells #[.slice Ax1a (z1).1.length cx1a, .slice Ax1b (z1).2.length cx1b] 28)) := below_alloc (Nat.le_refl _) hww9
    have zw10 : w9.heap.size + 1 = (w9.alloc (.cells #[.slice Ax1a (z1).1.length cx1a, .slice Ax1b (z1).2.length cx1b] 28)).heap.size := by simp
    replace fr := fr.step (below_alloc (o := (.cells #[.slice Ax1a (z1).1.length cx1a, .slice Ax1b (z1).2.length cx1b] 28)) (Nat.le_refl _) (Below.refl _ _))
    replace fx0 := fx0.step (below_alloc (o := (.cells #[.slice Ax1a (z1).1.length cx1a, .slice Ax1b (z1).2.length cx1b] 28)) (Nat.le_refl _) (Below.refl _ _))
    replace fx1 := fx1.step (below_alloc (o := (.cells #[.slice Ax1a (z1).1.length cx1a, .slice Ax1b (z1).2.length cx1b] 28)) (Nat.le_refl _) (Below.refl _ _))
    replace bxP1 := bxP1.alloc (.cells #[.slice Ax1a (z1).1.length cx1a, .slice Ax1b (z1).2.length cx1b] 28)
    replace bxr := bxr.alloc (.cells #[.slice Ax1a (z1).1.length cx1a, .slice Ax1b (z1).2.length cx1b] 28)
    have bxx1 := Box.new w9 28 #[.slice Ax1a (z1).1.length cx1a, .slice Ax1b (z1).2.length cx1b]
    generalize (w9.alloc (.cells #[.slice Ax1a (z1).1.length cx1a, .slice Ax1b (z1).2.length cx1b] 28)) = w10 at hww10 zw10 fr fx0 fx1 bxP1 bxr bxx1 ⊢
    refine (implPlacesLasso _ _ _ _ _ _ _ _ _ (Nat.le_refl _) (ox0.hold fx0).reads (ox1.hold fx1).reads).mono ?_; rintro e w11 ⟨vga, vgb, rfl, og, hbw11⟩
    obtain ⟨Aga, cga, Agb, cgb, rfl, rfl⟩ := og.form
    have zw11 := hbw11.size
    have hww11 := below_then hbw11 hww10.size hww10
    replace fr := fr.step hbw11
    replace fx0 := fx0.step hbw11
    replace fx1 := fx1.step hbw11
    replace bxP1 := bxP1.below hbw11 bxP1.lt
    replace bxr := bxr.below hbw11 bxr.lt
    replace bxx1 := bxx1.below hbw11 bxx1.lt
    have fg := Far.refl w10.heap.size w11
    have qP10 : w11.cell? ⟨w.heap.size, 0, none⟩ = some (.slice A1a n1a c1a) := bxP1.cell 0
    have pP10 : ∀ o, (w11.alloc o).cell? ⟨w.heap.size, 0, none⟩ = some (.slice A1a n1a c1a) := fun o => keepA qP10
    have rP10 : w.heap.size < w11.heap.size := bxP1.lt
    have qP11 : w11.cell? ⟨w.heap.size, 1, none⟩ = some (.slice A1b n1b c1b) := bxP1.cell 1
    have pP11 : ∀ o, (w11.alloc o).cell? ⟨w.heap.size, 1, none⟩ = some (.slice A1b n1b c1b) := fun o => keepA qP11
    have rP11 : w.heap.size < w11.heap.size := bxP1.lt
    have qr0 : w11.cell? ⟨br, 0, none⟩ = some (.slice Ara (plR z0 z1).1.length cra) := bxr.cell 0
    have pr0 : ∀ o, (w11.alloc o).cell? ⟨br, 0, none⟩ = some (.slice Ara (plR z0 z1).1.length cra) := fun o => keepA qr0
    have rr0 : br < w11.heap.size := bxr.lt
    have qr1 : w11.cell? ⟨br, 1, none⟩ = some (.slice Arb (plR z0 z1).2.length crb) := bxr.cell 1
    have pr1 : ∀ o, (w11.alloc o).cell? ⟨br, 1, none⟩ = some (.slice Arb (plR z0 z1).2.length crb) := fun o => keepA qr1
    have rr1 : br < w11.heap.size := bxr.lt
    have qx10 : w11.cell? ⟨w9.heap.size, 0, none⟩ = some (.slice Ax1a (z1).1.length cx1a) := bxx1.cell 0
    have px10 : ∀ o, (w11.alloc o).cell? ⟨w9.heap.size, 0, none⟩ = some (.slice Ax1a (z1).1.length cx1a) := fun o => keepA qx10
    have rx10 : w9.heap.size < w11.heap.size := bxx1.lt
    have qx11 : w11.cell? ⟨w9.heap.size, 1, none⟩ = some (.slice Ax1b (z1).2.length cx1b) := bxx1.cell 1
    have px11 : ∀ o, (w11.alloc o).cell? ⟨w9.heap.size, 1, none⟩ = some (.slice Ax1b (z1).2.length cx1b) := fun o => keepA qx11
    have rx11 : w9.heap.size < w11.heap.size := bxx1.lt
    go_wp2_with fail
    clear qP10 pP10 rP10 qP11 pP11 rP11 qr0 pr0 rr0 qr1 pr1 rr1 qx10 px10 rx10 qx11 px11 rx11
    have hww12 : Below w.heap.size w (w11.alloc (.cells #[.slice Aga (plR z0 z1).1.length cga, .slice Agb (plR z0 z1).2.length cgb] 28)) := below_alloc (Nat.le_refl _) hww11
    have zw12 : w11.heap.size + 1 = (w11.alloc (.cells #[.slice Aga (plR z0 z1).1.length cga, .slice Agb (plR z0 z1).2.length cgb] 28)).heap.size := by simp
    replace fr := fr.step (below_alloc (o := (.cells #[.slice Aga (plR z0 z1).1.length cga, .slice Agb (plR z0 z1).2.length cgb] 28)) (Nat.le_refl _) (Below.refl _ _))
    replace fx0 := fx0.step (below_alloc (o := (.cells #[.slice Aga (plR z0 z1).1.length cga, .slice Agb (plR z0 z1).2.length cgb] 28)) (Nat.le_refl _) (Below.refl _ _))
    replace fx1 := fx1.step (below_alloc (o := (.cells #[.slice Aga (plR z0 z1).1.length cga, .slice Agb (plR z0 z1).2.length cgb] 28)) (Nat.le_refl _) (Below.refl _ _))
    replace fg := fg.step (below_alloc (o := (.cells #[.slice Aga (plR z0 z1).1.length cga, .slice Agb (plR z0 z1).2.length cgb] 28)) (Nat.le_refl _) (Below.refl _ _))
    replace bxP1 := bxP1.alloc (.cells #[.slice Aga (plR z0 z1).1.length cga, .slice Agb (plR z0 z1).2.length cgb] 28)
    replace bxr := bxr.alloc (.cells #[.slice Aga (plR z0 z1).1.length cga, .slice Agb (plR z0 z1).2.length cgb] 28)
    replace bxx1 := bxx1.alloc (.cells #[.slice Aga (plR z0 z1).1.length cga, .slice Agb (plR z0 z1).2.length cgb] 28)
    have bxg := Box.new w11 28 #[.slice Aga (plR z0 z1).1.length cga, .slice Agb (plR z0 z1).2.length cgb]
    generalize (w11.alloc (.cells #[.slice Aga (plR z0 z1).1.length cga, .slice Agb (plR z0 z1).2.length cgb] 28)) = w12 at hww12 zw12 fr fx0 fx1 fg bxP1 bxr bxx1 bxg ⊢
    refine (eqLassoT _ _ _ _ _ _ _ _ (Nat.le_refl _) (og.hold fg).reads (or.hold fr).reads).mono ?_; rintro e w13 ⟨rfl, hbw13⟩
    have zw13 := hbw13.size
    have hww13 := below_then hbw13 hww12.size hww12
    replace fr := fr.step hbw13
    replace fx0 := fx0.step hbw13
    replace fx1 := fx1.step hbw13
    replace fg := fg.step hbw13
    replace bxP1 := bxP1.below hbw13 bxP1.lt
    replace bxr := bxr.below hbw13 bxr.lt
    replace bxx1 := bxx1.below hbw13 bxx1.lt
    replace bxg := bxg.below hbw13 bxg.lt
    rw [eqT_self]
    have qP10 : w13.cell? ⟨w.heap.size, 0, none⟩ = some (.slice A1a n1a c1a) := bxP1.cell 0
    have pP10 : ∀ o, (w13.alloc o).cell? ⟨w.heap.size, 0, none⟩ = some (.slice A1a n1a c1a) := fun o => keepA qP10
    have rP10 : w.heap.size < w13.heap.size := bxP1.lt
    have qP11 : w13.cell? ⟨w.heap.size, 1, none⟩ = some (.slice A1b n1b c1b) := bxP1.cell 1
    have pP11 : ∀ o, (w13.alloc o).cell? ⟨w.heap.size, 1, none⟩ = some (.slice A1b n1b c1b) := fun o => keepA qP11
    have rP11 : w.heap.size < w13.heap.size := bxP1.lt
    have qr0 : w13.cell? ⟨br, 0, none⟩ = some (.slice Ara (plR z0 z1).1.length cra) := bxr.cell 0
    have pr0 : ∀ o, (w13.alloc o).cell? ⟨br, 0, none⟩ = some (.slice Ara (plR z0 z1).1.length cra) := fun o => keepA qr0
    have rr0 : br < w13.heap.size := bxr.lt
    have qr1 : w13.cell? ⟨br, 1, none⟩ = some (.slice Arb (plR z0 z1).2.length crb) := bxr.cell 1
    have pr1 : ∀ o, (w13.alloc o).cell? ⟨br, 1, none⟩ = some (.slice Arb (plR z0 z1).2.length crb) := fun o => keepA qr1
    have rr1 : br < w13.heap.size := bxr.lt
    have qx10 : w13.cell? ⟨w9.heap.size, 0, none⟩ = some (.slice Ax1a (z1).1.length cx1a) := bxx1.cell 0
    have px10 : ∀ o, (w13.alloc o).cell? ⟨w9.heap.size, 0, none⟩ = some (.slice Ax1a (z1).1.length cx1a) := fun o => keepA qx10
    have rx10 : w9.heap.size < w13.heap.size := bxx1.lt
    have qx11 : w13.cell? ⟨w9.heap.size, 1, none⟩ = some (.slice Ax1b (z1).2.length cx1b) := bxx1.cell 1
    have px11 : ∀ o, (w13.alloc o).cell? ⟨w9.heap.size, 1, none⟩ = some (.slice Ax1b (z1).2.length cx1b) := fun o => keepA qx11
    have rx11 : w9.heap.size < w13.heap.size := bxx1.lt
    have qg0 : w13.cell? ⟨w11.heap.size, 0, none⟩ = some (.slice Aga (plR z0 z1).1.length cga) := bxg.cell 0
    have pg0 : ∀ o, (w13.alloc o).cell? ⟨w11.heap.size, 0, none⟩ = some (.slice Aga (plR z0 z1).1.length cga) := fun o => keepA qg0
    have rg0 : w11.heap.size < w13.heap.size := bxg.lt
    have qg1 : w13.cell? ⟨w11.heap.size, 1, none⟩ = some (.slice Agb (plR z0 z1).2.length cgb) := bxg.cell 1
    have pg1 : ∀ o, (w13.alloc o).cell? ⟨w11.heap.size, 1, none⟩ = some (.slice Agb (plR z0 z1).2.length cgb) := fun o => keepA qg1
    have rg1 : w11.heap.size < w13.heap.size := bxg.lt
    go_wp2_with fail
    clear qP10 pP10 rP10 qP11 pP11 rP11 qr0 pr0 rr0 qr1 pr1 rr1 qx10 px10 rx10 qx11 px11 rx11 qg0 pg0 rg0 qg1 pg1 rg1
    refine (toPlaceS _ _ _ _ _ _ (Nat.le_refl _) (ha0.keep (keeps_below hww13)) hm0).mono ?_; rintro e w14 ⟨vt0, rfl, ot0, hbw14⟩
    obtain ⟨At0, ct0, rfl⟩ := ot0.form
    have zw14 := hbw14.size
    have hww14 := below_then hbw14 hww13.size hww13
    replace fr := fr.step hbw14
    replace fx0 := fx0.step hbw14
    replace fx1 := fx1.step hbw14
    replace fg := fg.step hbw14
    replace bxP1 := bxP1.below hbw14 bxP1.lt
    replace bxr := bxr.below hbw14 bxr.lt
    replace bxx1 := bxx1.below hbw14 bxx1.lt
    replace bxg := bxg.below hbw14 bxg.lt
    have ft0 := Far.refl w13.heap.size w14
    have qP10 : w14.cell? ⟨w.heap.size, 0, none⟩ = some (.slice A1a n1a c1a) := bxP1.cell 0
    have pP10 : ∀ o, (w14.alloc o).cell? ⟨w.heap.size, 0, none⟩ = some (.slice A1a n1a c1a) := fun o => keepA qP10
    have rP10 : w.heap.size < w14.heap.size := bxP1.lt
    have qP11 : w14.cell? ⟨w.heap.size, 1, none⟩ = some (.slice A1b n1b c1b) := bxP1.cell 1
    have pP11 : ∀ o, (w14.alloc o).cell? ⟨w.heap.size, 1, none⟩ = some (.slice A1b n1b c1b) := fun o => keepA qP11
    have rP11 : w.heap.size < w14.heap.size := bxP1.lt
    have qr0 : w14.cell? ⟨br, 0, none⟩ = some (.slice Ara (plR z0 z1).1.length cra) := bxr.cell 0
    have pr0 : ∀ o, (w14.alloc o).cell? ⟨br, 0, none⟩ = some (.slice Ara (plR z0 z1).1.length cra) := fun o => keepA qr0
    have rr0 : br < w14.heap.size := bxr.lt
    have qr1 : w14.cell? ⟨br, 1, none⟩ = some (.slice Arb (plR z0 z1).2.length crb) := bxr.cell 1
    have pr1 : ∀ o, (w14.alloc o).cell? ⟨br, 1, none⟩ = some (.slice Arb (plR z0 z1).2.length crb) := fun o => keepA qr1
    have rr1 : br < w14.heap.size := bxr.lt
    have qx10 : w14.cell? ⟨w9.heap.size, 0, none⟩ = some (.slice Ax1a (z1).1.length cx1a) := bxx1.cell 0
    have px10 : ∀ o, (w14.alloc o).cell? ⟨w9.heap.size, 0, none⟩ = some (.slice Ax1a (z1).1.length cx1a) := fun o => keepA qx10
    have rx10 : w9.heap.size < w14.heap.size := bxx1.lt
    have qx11 : w14.cell? ⟨w9.heap.size, 1, none⟩ = some (.slice Ax1b (z1).2.length cx1b) := bxx1.cell 1
    have px11 : ∀ o, (w14.alloc o).cell? ⟨w9.heap.size, 1, none⟩ = some (.slice Ax1b (z1).2.length cx1b) := fun o => keepA qx11
    have rx11 : w9.heap.size < w14.heap.size := bxx1.lt
    have qg0 : w14.cell? ⟨w11.heap.size, 0, none⟩ = some (.slice Aga (plR z0 z1).1.length cga) := bxg.cell 0
    have pg0 : ∀ o, (w14.alloc o).cell? ⟨w11.heap.size, 0, none⟩ = some (.slice Aga (plR z0 z1).1.length cga) := fun o => keepA qg0
    have rg0 : w11.heap.size < w14.heap.size := bxg.lt
    have qg1 : w14.cell? ⟨w11.heap.size, 1, none⟩ = some (.slice Agb (plR z0 z1).2.length cgb) := bxg.cell 1
    have pg1 : ∀ o, (w14.alloc o).cell? ⟨w11.heap.size, 1, none⟩ = some (.slice Agb (plR z0 z1).2.length cgb) := fun o => keepA qg1
    have rg1 : w11.heap.size < w14.heap.size := bxg.lt
    go_wp2_with fail
    clear qP10 pP10 rP10 qP11 pP11 rP11 qr0 pr0 rr0 qr1 pr1 rr1 qx10 px10 rx10 qx11 px11 rx11 qg0 pg0 rg0 qg1 pg1 rg1
    refine (eqPlaceS _ _ _ _ _ _ _ _ _ _ (Nat.le_refl _) (ox0.hold fx0).reads (ot0.hold ft0).reads).mono ?_; rintro e w15 ⟨rfl, hbw15⟩
    have zw15 := hbw15.size
    have hww15 := below_then hbw15 hww14.size hww14
    replace fr := fr.step hbw15
    replace fx0 := fx0.step hbw15
    replace fx1 := fx1.step hbw15
    replace fg := fg.step hbw15
    replace ft0 := ft0.step hbw15
    replace bxP1 := bxP1.below hbw15 bxP1.lt
    replace bxr := bxr.below hbw15 bxr.lt
    replace bxx1 := bxx1.below hbw15 bxx1.lt
    replace bxg := bxg.below hbw15 bxg.lt
    rw [eqQs_self]
    clear ot0 ft0
    have qP10 : w15.cell? ⟨w.heap.size, 0, none⟩ = some (.slice A1a n1a c1a) := bxP1.cell 0
    have pP10 : ∀ o, (w15.alloc o).cell? ⟨w.heap.size, 0, none⟩ = some (.slice A1a n1a c1a) := fun o => keepA qP10
    have rP10 : w.heap.size < w15.heap.size := bxP1.lt
    have qP11 : w15.cell? ⟨w.heap.size, 1, none⟩ = some (.slice A1b n1b c1b) := bxP1.cell 1
    have pP11 : ∀ o, (w15.alloc o).cell? ⟨w.heap.size, 1, none⟩ = some (.slice A1b n1b c1b) := fun o => keepA qP11
    have rP11 : w.heap.size < w15.heap.size := bxP1.lt
    have qr0 : w15.cell? ⟨br, 0, none⟩ = some (.slice Ara (plR z0 z1).1.length cra) := bxr.cell 0
    have pr0 : ∀ o, (w15.alloc o).cell? ⟨br, 0, none⟩ = some (.slice Ara (plR z0 z1).1.length cra) := fun o => keepA qr0
    have rr0 : br < w15.heap.size := bxr.lt
    have qr1 : w15.cell? ⟨br, 1, none⟩ = some (.slice Arb (plR z0 z1).2.length crb) := bxr.cell 1
    have pr1 : ∀ o, (w15.alloc o).cell? ⟨br, 1, none⟩ = some (.slice Arb (plR z0 z1).2.length crb) := fun o => keepA qr1
    have rr1 : br < w15.heap.size := bxr.lt
    have qx10 : w15.cell? ⟨w9.heap.size, 0, none⟩ = some (.slice Ax1a (z1).1.length cx1a) := bxx1.cell 0
    have px10 : ∀ o, (w15.alloc o).cell? ⟨w9.heap.size, 0, none⟩ = some (.slice Ax1a (z1).1.length cx1a) := fun o => keepA qx10
    have rx10 : w9.heap.size < w15.heap.size := bxx1.lt
    have qx11 : w15.cell? ⟨w9.heap.size, 1, none⟩ = some (.slice Ax1b (z1).2.length cx1b) := bxx1.cell 1
    have px11 : ∀ o, (w15.alloc o).cell? ⟨w9.heap.size, 1, none⟩ = some (.slice Ax1b (z1).2.length cx1b) := fun o => keepA qx11
    have rx11 : w9.heap.size < w15.heap.size := bxx1.lt
    have qg0 : w15.cell? ⟨w11.heap.size, 0, none⟩ = some (.slice Aga (plR z0 z1).1.length cga) := bxg.cell 0
    have pg0 : ∀ o, (w15.alloc o).cell? ⟨w11.heap.size, 0, none⟩ = some (.slice Aga (plR z0 z1).1.length cga) := fun o => keepA qg0
    have rg0 : w11.heap.size < w15.heap.size := bxg.lt
    have qg1 : w15.cell? ⟨w11.heap.size, 1, none⟩ = some (.slice Agb (plR z0 z1).2.length cgb) := bxg.cell 1
    have pg1 : ∀ o, (w15.alloc o).cell? ⟨w11.heap.size, 1, none⟩ = some (.slice Agb (plR z0 z1).2.length cgb) := fun o => keepA qg1
    have rg1 : w11.heap.size < w15.heap.size := bxg.lt
    go_wp2_with fail
    clear qP10 pP10 rP10 qP11 pP11 rP11 qr0 pr0 rr0 qr1 pr1 rr1 qx10 px10 rx10 qx11 px11 rx11 qg0 pg0 rg0 qg1 pg1 rg1
    have qP10 : w15.cell? ⟨w.heap.size, 0, none⟩ = some (.slice A1a n1a c1a) := bxP1.cell 0
    have qP11 : w15.cell? ⟨w.heap.size, 1, none⟩ = some (.slice A1b n1b c1b) := bxP1.cell 1
    have rP1 : w.heap.size < w15.heap.size := bxP1.lt
    have qr0 : w15.cell? ⟨br, 0, none⟩ = some (.slice Ara (plR z0 z1).1.length cra) := bxr.cell 0
    have qr1 : w15.cell? ⟨br, 1, none⟩ = some (.slice Arb (plR z0 z1).2.length crb) := bxr.cell 1
    have rr : br < w15.heap.size := bxr.lt
    have qx10 : w15.cell? ⟨w9.heap.size, 0, none⟩ = some (.slice Ax1a (z1).1.length cx1a) := bxx1.cell 0
    have qx11 : w15.cell? ⟨w9.heap.size, 1, none⟩ = some (.slice Ax1b (z1).2.length cx1b) := bxx1.cell 1
    have rx1 : w9.heap.size < w15.heap.size := bxx1.lt
    have qg0 : w15.cell? ⟨w11.heap.size, 0, none⟩ = some (.slice Aga (plR z0 z1).1.length cga) := bxg.cell 0
    have qg1 : w15.cell? ⟨w11.heap.size, 1, none⟩ = some (.slice Agb (plR z0 z1).2.length cgb) := bxg.cell 1
    have rg : w11.heap.size < w15.heap.size := bxg.lt
    go_region_held3 (fun w' => w'.cell? ⟨w.heap.size, 0, none⟩ = some (.slice A1a n1a c1a) ∧ w'.cell? ⟨w.heap.size, 1, none⟩ = some (.slice A1b n1b c1b) ∧ w'.cell? ⟨br, 0, none⟩ = some (.slice Ara (plR z0 z1).1.length cra) ∧ w'.cell? ⟨br, 1, none⟩ = some (.slice Arb (plR z0 z1).2.length crb) ∧ w'.cell? ⟨w9.heap.size, 0, none⟩ = some (.slice Ax1a (z1).1.length cx1a) ∧ w'.cell? ⟨w9.heap.size, 1, none⟩ = some (.slice Ax1b (z1).2.length cx1b) ∧ w'.cell? ⟨w11.heap.size, 0, none⟩ = some (.slice Aga (plR z0 z1).1.length cga) ∧ w'.cell? ⟨w11.heap.size, 1, none⟩ = some (.slice Agb (plR z0 z1).2.length cgb))
      (refine ⟨?_, ?_, ?_, ?_, ?_, ?_, ?_, ?_⟩ <;> repeat (first | with_reducible assumption | with_reducible refine keepD ?_ | with_reducible refine keepA ?_))
      (first
        | (go_at_call 19
           refine (toLassoT _ _ _ _ _ (Nat.le_refl _) (ha1.keep (keeps_below (Below.drew hww15))) hm1).mono ?_; rintro e w16 ⟨vt1a, vt1b, rfl, ot1, hbw16⟩
           replace hbw16 := below_undrew hbw16
           obtain ⟨At1a, ct1a, At1b, ct1b, rfl, rfl⟩ := ot1.form
           have zw16 := hbw16.size
           have hww16 := below_then hbw16 hww15.size hww15
           replace fr := fr.step hbw16
           replace fx0 := fx0.step hbw16
           replace fx1 := fx1.step hbw16
           replace fg := fg.step hbw16
           replace bxP1 := bxP1.below hbw16 bxP1.lt
           replace bxr := bxr.below hbw16 bxr.lt
           replace bxx1 := bxx1.below hbw16 bxx1.lt
           replace bxg := bxg.below hbw16 bxg.lt
           have ft1 := Far.refl w15.heap.size w16
           have qP10 : w16.cell? ⟨w.heap.size, 0, none⟩ = some (.slice A1a n1a c1a) := bxP1.cell 0
           have qP11 : w16.cell? ⟨w.heap.size, 1, none⟩ = some (.slice A1b n1b c1b) := bxP1.cell 1
           have rP1 : w.heap.size < w16.heap.size := bxP1.lt
           have qr0 : w16.cell? ⟨br, 0, none⟩ = some (.slice Ara (plR z0 z1).1.length cra) := bxr.cell 0
           have qr1 : w16.cell? ⟨br, 1, none⟩ = some (.slice Arb (plR z0 z1).2.length crb) := bxr.cell 1
           have rr : br < w16.heap.size := bxr.lt
           have qx10 : w16.cell? ⟨w9.heap.size, 0, none⟩ = some (.slice Ax1a (z1).1.length cx1a) := bxx1.cell 0
           have qx11 : w16.cell? ⟨w9.heap.size, 1, none⟩ = some (.slice Ax1b (z1).2.length cx1b) := bxx1.cell 1
           have rx1 : w9.heap.size < w16.heap.size := bxx1.lt
           have qg0 : w16.cell? ⟨w11.heap.size, 0, none⟩ = some (.slice Aga (plR z0 z1).1.length cga) := bxg.cell 0
           have qg1 : w16.cell? ⟨w11.heap.size, 1, none⟩ = some (.slice Agb (plR z0 z1).2.length cgb) := bxg.cell 1
           have rg : w11.heap.size < w16.heap.size := bxg.lt)
        | (go_at_call 21
           refine (eqLassoT _ _ _ _ _ _ _ _ (Nat.le_refl _) (ox1.hold fx1).reads (ot1.hold ft1).reads).mono ?_; rintro e w17 ⟨rfl, hbw17⟩
           have zw17 := hbw17.size
           have hww17 := below_then hbw17 hww16.size hww16
           replace fr := fr.step hbw17
           replace fx0 := fx0.step hbw17
           replace fx1 := fx1.step hbw17
           replace fg := fg.step hbw17
           replace ft1 := ft1.step hbw17
           replace bxP1 := bxP1.below hbw17 bxP1.lt
           replace bxr := bxr.below hbw17 bxr.lt
           replace bxx1 := bxx1.below hbw17 bxx1.lt
           replace bxg := bxg.below hbw17 bxg.lt
           rw [eqT_self]
           have qP10 : w17.cell? ⟨w.heap.size, 0, none⟩ = some (.slice A1a n1a c1a) := bxP1.cell 0
           have qP11 : w17.cell? ⟨w.heap.size, 1, none⟩ = some (.slice A1b n1b c1b) := bxP1.cell 1
           have rP1 : w.heap.size < w17.heap.size := bxP1.lt
           have qr0 : w17.cell? ⟨br, 0, none⟩ = some (.slice Ara (plR z0 z1).1.length cra) := bxr.cell 0
           have qr1 : w17.cell? ⟨br, 1, none⟩ = some (.slice Arb (plR z0 z1).2.length crb) := bxr.cell 1
           have rr : br < w17.heap.size := bxr.lt
           have qx10 : w17.cell? ⟨w9.heap.size, 0, none⟩ = some (.slice Ax1a (z1).1.length cx1a) := bxx1.cell 0
           have qx11 : w17.cell? ⟨w9.heap.size, 1, none⟩ = some (.slice Ax1b (z1).2.length cx1b) := bxx1.cell 1
           have rx1 : w9.heap.size < w17.heap.size := bxx1.lt
           have qg0 : w17.cell? ⟨w11.heap.size, 0, none⟩ = some (.slice Aga (plR z0 z1).1.length cga) := bxg.cell 0
           have qg1 : w17.cell? ⟨w11.heap.size, 1, none⟩ = some (.slice Agb (plR z0 z1).2.length cgb) := bxg.cell 1
           have rg : w11.heap.size < w17.heap.size := bxg.lt))
    clear qP10 qP11 rP1 qr0 qr1 rr qx10 qx11 rx1 qg0 qg1 rg
    clear ot1 ft1
    have qP10 : w17.cell? ⟨w.heap.size, 0, none⟩ = some (.slice A1a n1a c1a) := bxP1.cell 0
    have pP10 : ∀ o, (w17.alloc o).cell? ⟨w.heap.size, 0, none⟩ = some (.slice A1a n1a c1a) := fun o => keepA qP10
    have rP10 : w.heap.size < w17.heap.size := bxP1.lt
    have qP11 : w17.cell? ⟨w.heap.size, 1, none⟩ = some (.slice A1b n1b c1b) := bxP1.cell 1
    have pP11 : ∀ o, (w17.alloc o).cell? ⟨w.heap.size, 1, none⟩ = some (.slice A1b n1b c1b) := fun o => keepA qP11
    have rP11 : w.heap.size < w17.heap.size := bxP1.lt
    have qr0 : w17.cell? ⟨br, 0, none⟩ = some (.slice Ara (plR z0 z1).1.length cra) := bxr.cell 0
    have pr0 : ∀ o, (w17.alloc o).cell? ⟨br, 0, none⟩ = some (.slice Ara (plR z0 z1).1.length cra) := fun o => keepA qr0
    have rr0 : br < w17.heap.size := bxr.lt
    have qr1 : w17.cell? ⟨br, 1, none⟩ = some (.slice Arb (plR z0 z1).2.length crb) := bxr.cell 1
    have pr1 : ∀ o, (w17.alloc o).cell? ⟨br, 1, none⟩ = some (.slice Arb (plR z0 z1).2.length crb) := fun o => keepA qr1
    have rr1 : br < w17.heap.size := bxr.lt
    have qx10 : w17.cell? ⟨w9.heap.size, 0, none⟩ = some (.slice Ax1a (z1).1.length cx1a) := bxx1.cell 0
    have px10 : ∀ o, (w17.alloc o).cell? ⟨w9.heap.size, 0, none⟩ = some (.slice Ax1a (z1).1.length cx1a) := fun o => keepA qx10
    have rx10 : w9.heap.size < w17.heap.size := bxx1.lt
    have qx11 : w17.cell? ⟨w9.heap.size, 1, none⟩ = some (.slice Ax1b (z1).2.length cx1b) := bxx1.cell 1
    have px11 : ∀ o, (w17.alloc o).cell? ⟨w9.heap.size, 1, none⟩ = some (.slice Ax1b (z1).2.length cx1b) := fun o => keepA qx11
    have rx11 : w9.heap.size < w17.heap.size := bxx1.lt
    have qg0 : w17.cell? ⟨w11.heap.size, 0, none⟩ = some (.slice Aga (plR z0 z1).1.length cga) := bxg.cell 0
    have pg0 : ∀ o, (w17.alloc o).cell? ⟨w11.heap.size, 0, none⟩ = some (.slice Aga (plR z0 z1).1.length cga) := fun o => keepA qg0
    have rg0 : w11.heap.size < w17.heap.size := bxg.lt
    have qg1 : w17.cell? ⟨w11.heap.size, 1, none⟩ = some (.slice Agb (plR z0 z1).2.length cgb) := bxg.cell 1
    have pg1 : ∀ o, (w17.alloc o).cell? ⟨w11.heap.size, 1, none⟩ = some (.slice Agb (plR z0 z1).2.length cgb) := fun o => keepA qg1
    have rg1 : w11.heap.size < w17.heap.size := bxg.lt
    go_wp2_with fail
    clear qP10 pP10 rP10 qP11 pP11 rP11 qr0 pr0 rr0 qr1 pr1 rr1 qx10 px10 rx10 qx11 px11 rx11 qg0 pg0 rg0 qg1 pg1 rg1
    refine (markPlaceSU _ _ _ _ (1) _ _ _ (by omega) ox0 fx0 (by omega) (by omega)).mono ?_; rintro e w18 ⟨rfl, onx0, chw18⟩
    have zw18 := chw18.size
    have blw18 : Below w7.heap.size w17 w18 := chw18.below (by omega) (fun x h => h.1)
    have hww18 := below_then blw18 (by omega) hww17
    replace fr := fr.mark chw18 (by omega)
    replace fx1 := fx1.mark chw18 (by omega)
    replace fg := fg.mark chw18 (by omega)
    clear ox0 fx0; have ox0 := onx0; have fx0 := Far.refl w7.heap.size w18
    replace bxP1 := bxP1.chg chw18 (by omega)
    replace bxr := bxr.chg chw18 (by omega)
    replace bxx1 := bxx1.chg chw18 (by omega)
    replace bxg := bxg.chg chw18 (by omega)
    clear ox0 fx0
    have qP10 : w18.cell? ⟨w.heap.size, 0, none⟩ = some (.slice A1a n1a c1a) := bxP1.cell 0
    have pP10 : ∀ o, (w18.alloc o).cell? ⟨w.heap.size, 0, none⟩ = some (.slice A1a n1a c1a) := fun o => keepA qP10
    have rP10 : w.heap.size < w18.heap.size := bxP1.lt
    have qP11 : w18.cell? ⟨w.heap.size, 1, none⟩ = some (.slice A1b n1b c1b) := bxP1.cell 1
    have pP11 : ∀ o, (w18.alloc o).cell? ⟨w.heap.size, 1, none⟩ = some (.slice A1b n1b c1b) := fun o => keepA qP11
    have rP11 : w.heap.size < w18.heap.size := bxP1.lt
    have qr0 : w18.cell? ⟨br, 0, none⟩ = some (.slice Ara (plR z0 z1).1.length cra) := bxr.cell 0
    have pr0 : ∀ o, (w18.alloc o).cell? ⟨br, 0, none⟩ = some (.slice Ara (plR z0 z1).1.length cra) := fun o => keepA qr0
    have rr0 : br < w18.heap.size := bxr.lt
    have qr1 : w18.cell? ⟨br, 1, none⟩ = some (.slice Arb (plR z0 z1).2.length crb) := bxr.cell 1
    have pr1 : ∀ o, (w18.alloc o).cell? ⟨br, 1, none⟩ = some (.slice Arb (plR z0 z1).2.length crb) := fun o => keepA qr1
    have rr1 : br < w18.heap.size := bxr.lt
    have qx10 : w18.cell? ⟨w9.heap.size, 0, none⟩ = some (.slice Ax1a (z1).1.length cx1a) := bxx1.cell 0
    have px10 : ∀ o, (w18.alloc o).cell? ⟨w9.heap.size, 0, none⟩ = some (.slice Ax1a (z1).1.length cx1a) := fun o => keepA qx10
    have rx10 : w9.heap.size < w18.heap.size := bxx1.lt
    have qx11 : w18.cell? ⟨w9.heap.size, 1, none⟩ = some (.slice Ax1b (z1).2.length cx1b) := bxx1.cell 1
    have px11 : ∀ o, (w18.alloc o).cell? ⟨w9.heap.size, 1, none⟩ = some (.slice Ax1b (z1).2.length cx1b) := fun o => keepA qx11
    have rx11 : w9.heap.size < w18.heap.size := bxx1.lt
    have qg0 : w18.cell? ⟨w11.heap.size, 0, none⟩ = some (.slice Aga (plR z0 z1).1.length cga) := bxg.cell 0
    have pg0 : ∀ o, (w18.alloc o).cell? ⟨w11.heap.size, 0, none⟩ = some (.slice Aga (plR z0 z1).1.length cga) := fun o => keepA qg0
    have rg0 : w11.heap.size < w18.heap.size := bxg.lt
    have qg1 : w18.cell? ⟨w11.heap.size, 1, none⟩ = some (.slice Agb (plR z0 z1).2.length cgb) := bxg.cell 1
    have pg1 : ∀ o, (w18.alloc o).cell? ⟨w11.heap.size, 1, none⟩ = some (.slice Agb (plR z0 z1).2.length cgb) := fun o => keepA qg1
    have rg1 : w11.heap.size < w18.heap.size := bxg.lt
    go_wp2_with fail
    clear qP10 pP10 rP10 qP11 pP11 rP11 qr0 pr0 rr0 qr1 pr1 rr1 qx10 px10 rx10 qx11 px11 rx11 qg0 pg0 rg0 qg1 pg1 rg1
    refine (markLassoU _ _ _ (1 + (totQ (z0) : Int)) _ _ _ (by omega) ox1 fx1 (by omega) (by omega)).mono ?_; rintro e w19 ⟨rfl, onx1, chw19⟩
    have zw19 := chw19.size
    have blw19 : Below w8.heap.size w18 w19 := chw19.below (by omega) (fun x h => h.1)
    have hww19 := below_then blw19 (by omega) hww18
    replace fr := fr.mark chw19 (by omega)
    replace fg := fg.mark chw19 (by omega)
    clear ox1 fx1; have ox1 := onx1; have fx1 := Far.refl w8.heap.size w19
    replace bxP1 := bxP1.chg chw19 (by omega)
    replace bxr := bxr.chg chw19 (by omega)
    replace bxx1 := bxx1.chg chw19 (by omega)
    replace bxg := bxg.chg chw19 (by omega)
    clear ox1 fx1
    clear bxx1
    have qP10 : w19.cell? ⟨w.heap.size, 0, none⟩ = some (.slice A1a n1a c1a) := bxP1.cell 0
    have pP10 : ∀ o, (w19.alloc o).cell? ⟨w.heap.size, 0, none⟩ = some (.slice A1a n1a c1a) := fun o => keepA qP10
    have rP10 : w.heap.size < w19.heap.size := bxP1.lt
    have qP11 : w19.cell? ⟨w.heap.size, 1, none⟩ = some (.slice A1b n1b c1b) := bxP1.cell 1
    have pP11 : ∀ o, (w19.alloc o).cell? ⟨w.heap.size, 1, none⟩ = some (.slice A1b n1b c1b) := fun o => keepA qP11
    have rP11 : w.heap.size < w19.heap.size := bxP1.lt
    have qr0 : w19.cell? ⟨br, 0, none⟩ = some (.slice Ara (plR z0 z1).1.length cra) := bxr.cell 0
    have pr0 : ∀ o, (w19.alloc o).cell? ⟨br, 0, none⟩ = some (.slice Ara (plR z0 z1).1.length cra) := fun o => keepA qr0
    have rr0 : br < w19.heap.size := bxr.lt
    have qr1 : w19.cell? ⟨br, 1, none⟩ = some (.slice Arb (plR z0 z1).2.length crb) := bxr.cell 1
    have pr1 : ∀ o, (w19.alloc o).cell? ⟨br, 1, none⟩ = some (.slice Arb (plR z0 z1).2.length crb) := fun o => keepA qr1
    have rr1 : br < w19.heap.size := bxr.lt
    have qg0 : w19.cell? ⟨w11.heap.size, 0, none⟩ = some (.slice Aga (plR z0 z1).1.length cga) := bxg.cell 0
    have pg0 : ∀ o, (w19.alloc o).cell? ⟨w11.heap.size, 0, none⟩ = some (.slice Aga (plR z0 z1).1.length cga) := fun o => keepA qg0
    have rg0 : w11.heap.size < w19.heap.size := bxg.lt
    have qg1 : w19.cell? ⟨w11.heap.size, 1, none⟩ = some (.slice Agb (plR z0 z1).2.length cgb) := bxg.cell 1
    have pg1 : ∀ o, (w19.alloc o).cell? ⟨w11.heap.size, 1, none⟩ = some (.slice Agb (plR z0 z1).2.length cgb) := fun o => keepA qg1
    have rg1 : w11.heap.size < w19.heap.size := bxg.lt
    go_wp2_with fail
    clear qP10 pP10 rP10 qP11 pP11 rP11 qr0 pr0 rr0 qr1 pr1 rr1 qg0 pg0 rg0 qg1 pg1 rg1
    refine (eqLassoT _ _ _ _ _ _ _ _ (Nat.le_refl _) (og.hold fg).reads (or.hold fr).reads).mono ?_; rintro e w20 ⟨rfl, hbw20⟩
    have zw20 := hbw20.size
    have hww20 := below_then hbw20 hww19.size hww19
    replace fr := fr.step hbw20
    replace fg := fg.step hbw20
    replace bxP1 := bxP1.below hbw20 bxP1.lt
    replace bxr := bxr.below hbw20 bxr.lt
    replace bxg := bxg.below hbw20 bxg.lt
    rw [eqT_self]
    have qP10 : w20.cell? ⟨w.heap.size, 0, none⟩ = some (.slice A1a n1a c1a) := bxP1.cell 0
    have pP10 : ∀ o, (w20.alloc o).cell? ⟨w.heap.size, 0, none⟩ = some (.slice A1a n1a c1a) := fun o => keepA qP10
    have rP10 : w.heap.size < w20.heap.size := bxP1.lt
    have qP11 : w20.cell? ⟨w.heap.size, 1, none⟩ = some (.slice A1b n1b c1b) := bxP1.cell 1
    have pP11 : ∀ o, (w20.alloc o).cell? ⟨w.heap.size, 1, none⟩ = some (.slice A1b n1b c1b) := fun o => keepA qP11
    have rP11 : w.heap.size < w20.heap.size := bxP1.lt
    have qr0 : w20.cell? ⟨br, 0, none⟩ = some (.slice Ara (plR z0 z1).1.length cra) := bxr.cell 0
    have pr0 : ∀ o, (w20.alloc o).cell? ⟨br, 0, none⟩ = some (.slice Ara (plR z0 z1).1.length cra) := fun o => keepA qr0
    have rr0 : br < w20.heap.size := bxr.lt
    have qr1 : w20.cell? ⟨br, 1, none⟩ = some (.slice Arb (plR z0 z1).2.length crb) := bxr.cell 1
    have pr1 : ∀ o, (w20.alloc o).cell? ⟨br, 1, none⟩ = some (.slice Arb (plR z0 z1).2.length crb) := fun o => keepA qr1
    have rr1 : br < w20.heap.size := bxr.lt
    have qg0 : w20.cell? ⟨w11.heap.size, 0, none⟩ = some (.slice Aga (plR z0 z1).1.length cga) := bxg.cell 0
    have pg0 : ∀ o, (w20.alloc o).cell? ⟨w11.heap.size, 0, none⟩ = some (.slice Aga (plR z0 z1).1.length cga) := fun o => keepA qg0
    have rg0 : w11.heap.size < w20.heap.size := bxg.lt
    have qg1 : w20.cell? ⟨w11.heap.size, 1, none⟩ = some (.slice Agb (plR z0 z1).2.length cgb) := bxg.cell 1
    have pg1 : ∀ o, (w20.alloc o).cell? ⟨w11.heap.size, 1, none⟩ = some (.slice Agb (plR z0 z1).2.length cgb) := fun o => keepA qg1
    have rg1 : w11.heap.size < w20.heap.size := bxg.lt
    go_wp2_with fail
    clear qP10 pP10 rP10 qP11 pP11 rP11 qr0 pr0 rr0 qr1 pr1 rr1 qg0 pg0 rg0 qg1 pg1 rg1
    refine (markLassoU _ _ _ 1 _ _ _ (by omega) og fg (by omega) (by omega)).mono ?_; rintro e w21 ⟨rfl, ong, chw21⟩
    have zw21 := chw21.size
    have blw21 : Below w10.heap.size w20 w21 := chw21.below (by omega) (fun x h => h.1)
    have hww21 := below_then blw21 (by omega) hww20
    replace fr := fr.mark chw21 (by omega)
    clear og fg; have og := ong; have fg := Far.refl w10.heap.size w21
    replace bxP1 := bxP1.chg chw21 (by omega)
    replace bxr := bxr.chg chw21 (by omega)
    replace bxg := bxg.chg chw21 (by omega)
    have qP10 : w21.cell? ⟨w.heap.size, 0, none⟩ = some (.slice A1a n1a c1a) := bxP1.cell 0
    have pP10 : ∀ o, (w21.alloc o).cell? ⟨w.heap.size, 0, none⟩ = some (.slice A1a n1a c1a) := fun o => keepA qP10
    have rP10 : w.heap.size < w21.heap.size := bxP1.lt
    have qP11 : w21.cell? ⟨w.heap.size, 1, none⟩ = some (.slice A1b n1b c1b) := bxP1.cell 1
    have pP11 : ∀ o, (w21.alloc o).cell? ⟨w.heap.size, 1, none⟩ = some (.slice A1b n1b c1b) := fun o => keepA qP11
    have rP11 : w.heap.size < w21.heap.size := bxP1.lt
    have qr0 : w21.cell? ⟨br, 0, none⟩ = some (.slice Ara (plR z0 z1).1.length cra) := bxr.cell 0
    have pr0 : ∀ o, (w21.alloc o).cell? ⟨br, 0, none⟩ = some (.slice Ara (plR z0 z1).1.length cra) := fun o => keepA qr0
    have rr0 : br < w21.heap.size := bxr.lt
    have qr1 : w21.cell? ⟨br, 1, none⟩ = some (.slice Arb (plR z0 z1).2.length crb) := bxr.cell 1
    have pr1 : ∀ o, (w21.alloc o).cell? ⟨br, 1, none⟩ = some (.slice Arb (plR z0 z1).2.length crb) := fun o => keepA qr1
    have rr1 : br < w21.heap.size := bxr.lt
    have qg0 : w21.cell? ⟨w11.heap.size, 0, none⟩ = some (.slice Aga (plR z0 z1).1.length cga) := bxg.cell 0
    have pg0 : ∀ o, (w21.alloc o).cell? ⟨w11.heap.size, 0, none⟩ = some (.slice Aga (plR z0 z1).1.length cga) := fun o => keepA qg0
    have rg0 : w11.heap.size < w21.heap.size := bxg.lt
    have qg1 : w21.cell? ⟨w11.heap.size, 1, none⟩ = some (.slice Agb (plR z0 z1).2.length cgb) := bxg.cell 1
    have pg1 : ∀ o, (w21.alloc o).cell? ⟨w11.heap.size, 1, none⟩ = some (.slice Agb (plR z0 z1).2.length cgb) := fun o => keepA qg1
    have rg1 : w11.heap.size < w21.heap.size := bxg.lt
    go_wp2_with fail
    clear qP10 pP10 rP10 qP11 pP11 rP11 qr0 pr0 rr0 qr1 pr1 rr1 qg0 pg0 rg0 qg1 pg1 rg1
    refine (heldLasso _ _ (plR z0 z1) 1 _ _ (Nat.le_refl _) (og.hold fg).reads (by omega) (by omega)).mono ?_; rintro e w22 ⟨rfl, hbw22⟩
    have zw22 := hbw22.size
    have hww22 := below_then hbw22 hww21.size hww21
    replace fr := fr.step hbw22
    replace fg := fg.step hbw22
    replace bxP1 := bxP1.below hbw22 bxP1.lt
    replace bxr := bxr.below hbw22 bxr.lt
    replace bxg := bxg.below hbw22 bxg.lt
    have qP10 : w22.cell? ⟨w.heap.size, 0, none⟩ = some (.slice A1a n1a c1a) := bxP1.cell 0
    have pP10 : ∀ o, (w22.alloc o).cell? ⟨w.heap.size, 0, none⟩ = some (.slice A1a n1a c1a) := fun o => keepA qP10
    have rP10 : w.heap.size < w22.heap.size := bxP1.lt
    have qP11 : w22.cell? ⟨w.heap.size, 1, none⟩ = some (.slice A1b n1b c1b) := bxP1.cell 1
    have pP11 : ∀ o, (w22.alloc o).cell? ⟨w.heap.size, 1, none⟩ = some (.slice A1b n1b c1b) := fun o => keepA qP11
    have rP11 : w.heap.size < w22.heap.size := bxP1.lt
    have qr0 : w22.cell? ⟨br, 0, none⟩ = some (.slice Ara (plR z0 z1).1.length cra) := bxr.cell 0
    have pr0 : ∀ o, (w22.alloc o).cell? ⟨br, 0, none⟩ = some (.slice Ara (plR z0 z1).1.length cra) := fun o => keepA qr0
    have rr0 : br < w22.heap.size := bxr.lt
    have qr1 : w22.cell? ⟨br, 1, none⟩ = some (.slice Arb (plR z0 z1).2.length crb) := bxr.cell 1
    have pr1 : ∀ o, (w22.alloc o).cell? ⟨br, 1, none⟩ = some (.slice Arb (plR z0 z1).2.length crb) := fun o => keepA qr1
    have rr1 : br < w22.heap.size := bxr.lt
    have qg0 : w22.cell? ⟨w11.heap.size, 0, none⟩ = some (.slice Aga (plR z0 z1).1.length cga) := bxg.cell 0
    have pg0 : ∀ o, (w22.alloc o).cell? ⟨w11.heap.size, 0, none⟩ = some (.slice Aga (plR z0 z1).1.length cga) := fun o => keepA qg0
    have rg0 : w11.heap.size < w22.heap.size := bxg.lt
    have qg1 : w22.cell? ⟨w11.heap.size, 1, none⟩ = some (.slice Agb (plR z0 z1).2.length cgb) := bxg.cell 1
    have pg1 : ∀ o, (w22.alloc o).cell? ⟨w11.heap.size, 1, none⟩ = some (.slice Agb (plR z0 z1).2.length cgb) := fun o => keepA qg1
    have rg1 : w11.heap.size < w22.heap.size := bxg.lt
    go_wp2_with fail
    clear qP10 pP10 rP10 qP11 pP11 rP11 qr0 pr0 rr0 qr1 pr1 rr1 qg0 pg0 rg0 qg1 pg1 rg1
    have qP10 : w22.cell? ⟨w.heap.size, 0, none⟩ = some (.slice A1a n1a c1a) := bxP1.cell 0
    have qP11 : w22.cell? ⟨w.heap.size, 1, none⟩ = some (.slice A1b n1b c1b) := bxP1.cell 1
    have rP1 : w.heap.size < w22.heap.size := bxP1.lt
    have qr0 : w22.cell? ⟨br, 0, none⟩ = some (.slice Ara (plR z0 z1).1.length cra) := bxr.cell 0
    have qr1 : w22.cell? ⟨br, 1, none⟩ = some (.slice Arb (plR z0 z1).2.length crb) := bxr.cell 1
    have rr : br < w22.heap.size := bxr.lt
    have qg0 : w22.cell? ⟨w11.heap.size, 0, none⟩ = some (.slice Aga (plR z0 z1).1.length cga) := bxg.cell 0
    have qg1 : w22.cell? ⟨w11.heap.size, 1, none⟩ = some (.slice Agb (plR z0 z1).2.length cgb) := bxg.cell 1
    have rg : w11.heap.size < w22.heap.size := bxg.lt
    have sr := fr.size
    have sg := fg.size
    go_upto_region 31 with (fail)
    go_cut [13] (fun u0 wx => Hid (∃ (bh : Nat) (Aha Ahb : Option Addr) (cha chb : Nat) (lh : Nat) (mh : World), u0 = .pointer (some ⟨bh, 0, none⟩) ∧ Box wx bh 28 #[.slice Aha (plR z0 z1).1.length cha, .slice Ahb (plR z0 z1).2.length chb] ∧ OT mh lh (.slice Aha (plR z0 z1).1.length cha) (.slice Ahb (plR z0 z1).2.length chb) (plR z0 z1) ∧ Far lh mh wx ∧ Below w.heap.size w wx ∧ Far lr mr wx ∧ Far w10.heap.size w21 wx ∧ Box wx (w.heap.size) 25 #[.slice A1a n1a c1a, .slice A1b n1b c1b] ∧ Box wx (br) 28 #[.slice Ara (plR z0 z1).1.length cra, .slice Arb (plR z0 z1).2.length crb] ∧ Box wx (w11.heap.size) 28 #[.slice Aga (plR z0 z1).1.length cga, .slice Agb (plR z0 z1).2.length cgb]))
    case first =>
      go_region_held3 (fun w' => w'.cell? ⟨w.heap.size, 0, none⟩ = some (.slice A1a n1a c1a) ∧ w'.cell? ⟨w.heap.size, 1, none⟩ = some (.slice A1b n1b c1b) ∧ w'.cell? ⟨br, 0, none⟩ = some (.slice Ara (plR z0 z1).1.length cra) ∧ w'.cell? ⟨br, 1, none⟩ = some (.slice Arb (plR z0 z1).2.length crb) ∧ w'.cell? ⟨w11.heap.size, 0, none⟩ = some (.slice Aga (plR z0 z1).1.length cga) ∧ w'.cell? ⟨w11.heap.size, 1, none⟩ = some (.slice Agb (plR z0 z1).2.length cgb))
        (refine ⟨?_, ?_, ?_, ?_, ?_, ?_⟩ <;> repeat (first | with_reducible assumption | with_reducible refine keepD ?_ | with_reducible refine keepA ?_ | (with_reducible refine keepS ?_ ?_; rotate_left; (first | omega | (simp; omega)))))
        (first
          | (go_at_call 18
             refine (toPlaceS _ _ _ _ _ _ (Nat.le_refl _) (ha0.keep (keeps_below (by repeat (first | with_reducible assumption | with_reducible exact hww22 | with_reducible refine Below.drew ?_ | with_reducible refine below_alloc (Nat.le_refl _) ?_)))) hm0).mono ?_; rintro e w23 ⟨vs0, rfl, os0, hbw23⟩
             obtain ⟨As0, cs0, rfl⟩ := os0.form
             first | have hBw23 : Below w22.heap.size w22 w23 := hbw23 | have hBw23 : Below w22.heap.size w22 w23 := below_undrew hbw23 | have hBw23 : Below w22.heap.size w22 w23 := below_unalloc hbw23 | have hBw23 : Below w22.heap.size w22 w23 := below_unalloc (below_undrew hbw23)
             first | have bz := Box.on bz hBw23 | have bz := Box.allocT hbw23 | have bz := Box.allocD hbw23 | skip
             try (have qz0 := bz.cell 0; have qz1 := bz.cell 1; have qh0 := bz.hot 0; have qh1 := bz.hot 1; have qzl := bz.lt)
             have zw23 := hBw23.size
             have hww23 := below_then hBw23 hww22.size hww22
             replace fr := fr.step hBw23
             replace fg := fg.step hBw23
             replace bxP1 := bxP1.on hBw23
             replace bxr := bxr.on hBw23
             replace bxg := bxg.on hBw23
             have fs0 := fun lo => Far.refl lo w23
             have qP10 : w23.cell? ⟨w.heap.size, 0, none⟩ = some (.slice A1a n1a c1a) := bxP1.cell 0
             have qP11 : w23.cell? ⟨w.heap.size, 1, none⟩ = some (.slice A1b n1b c1b) := bxP1.cell 1
             have rP1 : w.heap.size < w23.heap.size := bxP1.lt
             have qr0 : w23.cell? ⟨br, 0, none⟩ = some (.slice Ara (plR z0 z1).1.length cra) := bxr.cell 0
             have qr1 : w23.cell? ⟨br, 1, none⟩ = some (.slice Arb (plR z0 z1).2.length crb) := bxr.cell 1
             have rr : br < w23.heap.size := bxr.lt
             have qg0 : w23.cell? ⟨w11.heap.size, 0, none⟩ = some (.slice Aga (plR z0 z1).1.length cga) := bxg.cell 0
             have qg1 : w23.cell? ⟨w11.heap.size, 1, none⟩ = some (.slice Agb (plR z0 z1).2.length cgb) := bxg.cell 1
             have rg : w11.heap.size < w23.heap.size := bxg.lt)
          | (go_at_call 19
             refine (toLassoT _ _ _ _ _ (Nat.le_refl _) (ha1.keep (keeps_below (by repeat (first | with_reducible assumption | with_reducible exact hww23 | with_reducible refine Below.drew ?_ | with_reducible refine below_alloc (Nat.le_refl _) ?_)))) hm1).mono ?_; rintro e w24 ⟨vs1a, vs1b, rfl, os1, hbw24⟩
             obtain ⟨As1a, cs1a, As1b, cs1b, rfl, rfl⟩ := os1.form
             first | have hBw24 : Below w23.heap.size w23 w24 := hbw24 | have hBw24 : Below w23.heap.size w23 w24 := below_undrew hbw24 | have hBw24 : Below w23.heap.size w23 w24 := below_unalloc hbw24 | have hBw24 : Below w23.heap.size w23 w24 := below_unalloc (below_undrew hbw24)
             first | have bz := Box.on bz hBw24 | have bz := Box.allocT hbw24 | have bz := Box.allocD hbw24 | skip
             try (have qz0 := bz.cell 0; have qz1 := bz.cell 1; have qh0 := bz.hot 0; have qh1 := bz.hot 1; have qzl := bz.lt)
             have zw24 := hBw24.size
             have hww24 := below_then hBw24 hww23.size hww23
             replace fr := fr.step hBw24
             replace fg := fg.step hBw24
             replace bxP1 := bxP1.on hBw24
             replace bxr := bxr.on hBw24
             replace bxg := bxg.on hBw24
             replace fs0 := fun lo => (fs0 lo).step hBw24
             have fs1 := fun lo => Far.refl lo w24
             have qP10 : w24.cell? ⟨w.heap.size, 0, none⟩ = some (.slice A1a n1a c1a) := bxP1.cell 0
             have qP11 : w24.cell? ⟨w.heap.size, 1, none⟩ = some (.slice A1b n1b c1b) := bxP1.cell 1
             have rP1 : w.heap.size < w24.heap.size := bxP1.lt
             have qr0 : w24.cell? ⟨br, 0, none⟩ = some (.slice Ara (plR z0 z1).1.length cra) := bxr.cell 0
             have qr1 : w24.cell? ⟨br, 1, none⟩ = some (.slice Arb (plR z0 z1).2.length crb) := bxr.cell 1
             have rr : br < w24.heap.size := bxr.lt
             have qg0 : w24.cell? ⟨w11.heap.size, 0, none⟩ = some (.slice Aga (plR z0 z1).1.length cga) := bxg.cell 0
             have qg1 : w24.cell? ⟨w11.heap.size, 1, none⟩ = some (.slice Agb (plR z0 z1).2.length cgb) := bxg.cell 1
             have rg : w11.heap.size < w24.heap.size := bxg.lt)
          | (go_at_call 20
             refine (implPlacesLasso _ _ _ _ _ _ _ _ _ (Nat.le_refl _) (os0.hold (by first | exact fs0 _ | exact Far.alloc (fs0 _) _)).reads (os1.hold (by first | exact fs1 _ | exact Far.alloc (fs1 _) _)).reads).mono ?_; rintro e w25 ⟨vha, vhb, rfl, oh, hbw25⟩
             obtain ⟨Aha, cha, Ahb, chb, rfl, rfl⟩ := oh.form
             first | have hBw25 : Below w24.heap.size w24 w25 := hbw25 | have hBw25 : Below w24.heap.size w24 w25 := below_undrew hbw25 | have hBw25 : Below w24.heap.size w24 w25 := below_unalloc hbw25 | have hBw25 : Below w24.heap.size w24 w25 := below_unalloc (below_undrew hbw25)
             first | have bz := Box.on bz hBw25 | have bz := Box.allocT hbw25 | have bz := Box.allocD hbw25 | skip
             try (have qz0 := bz.cell 0; have qz1 := bz.cell 1; have qh0 := bz.hot 0; have qh1 := bz.hot 1; have qzl := bz.lt)
             have zw25 := hBw25.size
             have hww25 := below_then hBw25 hww24.size hww24
             replace fr := fr.step hBw25
             replace fg := fg.step hBw25
             replace bxP1 := bxP1.on hBw25
             replace bxr := bxr.on hBw25
             replace bxg := bxg.on hBw25
             replace fs0 := fun lo => (fs0 lo).step hBw25
             replace fs1 := fun lo => (fs1 lo).step hBw25
             have qP10 : w25.cell? ⟨w.heap.size, 0, none⟩ = some (.slice A1a n1a c1a) := bxP1.cell 0
             have qP11 : w25.cell? ⟨w.heap.size, 1, none⟩ = some (.slice A1b n1b c1b) := bxP1.cell 1
             have rP1 : w.heap.size < w25.heap.size := bxP1.lt
             have qr0 : w25.cell? ⟨br, 0, none⟩ = some (.slice Ara (plR z0 z1).1.length cra) := bxr.cell 0
             have qr1 : w25.cell? ⟨br, 1, none⟩ = some (.slice Arb (plR z0 z1).2.length crb) := bxr.cell 1
             have rr : br < w25.heap.size := bxr.lt
             have qg0 : w25.cell? ⟨w11.heap.size, 0, none⟩ = some (.slice Aga (plR z0 z1).1.length cga) := bxg.cell 0
             have qg1 : w25.cell? ⟨w11.heap.size, 1, none⟩ = some (.slice Agb (plR z0 z1).2.length cgb) := bxg.cell 1
             have rg : w11.heap.size < w25.heap.size := bxg.lt))
      all_goals (go_wp2_with fail; go_meet)
      all_goals
        first
          | (refine Lib.hid ⟨w22.heap.size, _, _, _, _, _, _, rfl, (bz.set2 _ _), oh, ?_, ?_, ?_, ?_, ?_, ?_, ?_⟩
             · (refine Far.set (Far.set (Far.refl _ _) (Or.inl ?_) _) (Or.inl ?_) _ <;> first | exact qzl | (simp; done) | (simp; omega))
             · (have hh := hww22.size; refine below_set ?_ (below_set ?_ (?_)) <;> first | exact hww25 | exact hh)
             · (refine Far.set (Far.set (fr) (Or.inr ?_) _) (Or.inr ?_) _ <;> first | omega | (simp; omega))
             · (refine Far.set (Far.set (fg) (Or.inr ?_) _) (Or.inr ?_) _ <;> first | omega | (simp; omega))
             · (refine Box.far (Box.far (bxP1) ?_ _) ?_ _ <;> first | omega | (simp; omega))
             · (refine Box.far (Box.far (bxr) ?_ _) ?_ _ <;> first | omega | (simp; omega))
             · (refine Box.far (Box.far (bxg) ?_ _) ?_ _ <;> first | omega | (simp; omega)))
          | (refine Lib.hid ⟨w23.heap.size, _, _, _, _, _, _, rfl, (bz.set2 _ _), oh, ?_, ?_, ?_, ?_, ?_, ?_, ?_⟩
             · (refine Far.set (Far.set (Far.refl _ _) (Or.inl ?_) _) (Or.inl ?_) _ <;> first | exact qzl | (simp; done) | (simp; omega))
             · (have hh := hww23.size; refine below_set ?_ (below_set ?_ (?_)) <;> first | exact hww25 | exact hh)
             · (refine Far.set (Far.set (fr) (Or.inr ?_) _) (Or.inr ?_) _ <;> first | omega | (simp; omega))
             · (refine Far.set (Far.set (fg) (Or.inr ?_) _) (Or.inr ?_) _ <;> first | omega | (simp; omega))
             · (refine Box.far (Box.far (bxP1) ?_ _) ?_ _ <;> first | omega | (simp; omega))
             · (refine Box.far (Box.far (bxr) ?_ _) ?_ _ <;> first | omega | (simp; omega))
             · (refine Box.far (Box.far (bxg) ?_ _) ?_ _ <;> first | omega | (simp; omega)))
          | (refine Lib.hid ⟨w24.heap.size, _, _, _, _, _, _, rfl, (bz.set2 _ _), oh, ?_, ?_, ?_, ?_, ?_, ?_, ?_⟩
             · (refine Far.set (Far.set (Far.refl _ _) (Or.inl ?_) _) (Or.inl ?_) _ <;> first | exact qzl | (simp; done) | (simp; omega))
             · (have hh := hww24.size; refine below_set ?_ (below_set ?_ (?_)) <;> first | exact hww25 | exact hh)
             · (refine Far.set (Far.set (fr) (Or.inr ?_) _) (Or.inr ?_) _ <;> first | omega | (simp; omega))
             · (refine Far.set (Far.set (fg) (Or.inr ?_) _) (Or.inr ?_) _ <;> first | omega | (simp; omega))
             · (refine Box.far (Box.far (bxP1) ?_ _) ?_ _ <;> first | omega | (simp; omega))
             · (refine Box.far (Box.far (bxr) ?_ _) ?_ _ <;> first | omega | (simp; omega))
             · (refine Box.far (Box.far (bxg) ?_ _) ?_ _ <;> first | omega | (simp; omega)))
          | (refine Lib.hid ⟨w25.heap.size, _, _, _, _, _, _, rfl, (Box.new _ _ _), oh, ?_, ?_, ?_, ?_, ?_, ?_, ?_⟩
             · exact Far.alloc (Far.refl _ _) _
             · exact below_alloc (Nat.le_refl _) hww25
             · exact Far.alloc fr _
             · exact Far.alloc fg _
             · exact Box.alloc bxP1 _
             · exact Box.alloc bxr _
             · exact Box.alloc bxg _)
    case rest =>
      obtain ⟨bh, Aha, Ahb, cha, chb, lh, mh, rfl, bxh, oh, fh, hv, gr, gg, byP1, byr, byg⟩ := hcut.out
      clear hcut
      clear fr; have fr := gr; clear gr
      clear fg; have fg := gg; clear gg
      clear bxP1; have bxP1 := byP1; clear byP1
      clear bxr; have bxr := byr; clear byr
      clear bxg; have bxg := byg; clear byg
      have hww26 := hv; clear hv
      generalize wc = w26 at *
      have th := fh.size; have vh := bxh.lt; have zw26 := hww26.size
      have vP1 := bxP1.lt
      have vr := bxr.lt
      have vg := bxg.lt
      have tr := fr.size
      have tg := fg.size
      clear qP10 qP11 rP1 qr0 qr1 rr qg0 qg1 rg sr sg
      have qP10 : w26.cell? ⟨w.heap.size, 0, none⟩ = some (.slice A1a n1a c1a) := bxP1.cell 0
      have pP10 : ∀ o, (w26.alloc o).cell? ⟨w.heap.size, 0, none⟩ = some (.slice A1a n1a c1a) := fun o => keepA qP10
      have rP10 : w.heap.size < w26.heap.size := bxP1.lt
      have qP11 : w26.cell? ⟨w.heap.size, 1, none⟩ = some (.slice A1b n1b c1b) := bxP1.cell 1
      have pP11 : ∀ o, (w26.alloc o).cell? ⟨w.heap.size, 1, none⟩ = some (.slice A1b n1b c1b) := fun o => keepA qP11
      have rP11 : w.heap.size < w26.heap.size := bxP1.lt
      have qr0 : w26.cell? ⟨br, 0, none⟩ = some (.slice Ara (plR z0 z1).1.length cra) := bxr.cell 0
      have pr0 : ∀ o, (w26.alloc o).cell? ⟨br, 0, none⟩ = some (.slice Ara (plR z0 z1).1.length cra) := fun o => keepA qr0
      have rr0 : br < w26.heap.size := bxr.lt
      have qr1 : w26.cell? ⟨br, 1, none⟩ = some (.slice Arb (plR z0 z1).2.length crb) := bxr.cell 1
      have pr1 : ∀ o, (w26.alloc o).cell? ⟨br, 1, none⟩ = some (.slice Arb (plR z0 z1).2.length crb) := fun o => keepA qr1
      have rr1 : br < w26.heap.size := bxr.lt
      have qg0 : w26.cell? ⟨w11.heap.size, 0, none⟩ = some (.slice Aga (plR z0 z1).1.length cga) := bxg.cell 0
      have pg0 : ∀ o, (w26.alloc o).cell? ⟨w11.heap.size, 0, none⟩ = some (.slice Aga (plR z0 z1).1.length cga) := fun o => keepA qg0
      have rg0 : w11.heap.size < w26.heap.size := bxg.lt
      have qg1 : w26.cell? ⟨w11.heap.size, 1, none⟩ = some (.slice Agb (plR z0 z1).2.length cgb) := bxg.cell 1
      have pg1 : ∀ o, (w26.alloc o).cell? ⟨w11.heap.size, 1, none⟩ = some (.slice Agb (plR z0 z1).2.length cgb) := fun o => keepA qg1
      have rg1 : w11.heap.size < w26.heap.size := bxg.lt
      have qh0 : w26.cell? ⟨bh, 0, none⟩ = some (.slice Aha (plR z0 z1).1.length cha) := bxh.cell 0
      have ph0 : ∀ o, (w26.alloc o).cell? ⟨bh, 0, none⟩ = some (.slice Aha (plR z0 z1).1.length cha) := fun o => keepA qh0
      have rh0 : bh < w26.heap.size := bxh.lt
      have qh1 : w26.cell? ⟨bh, 1, none⟩ = some (.slice Ahb (plR z0 z1).2.length chb) := bxh.cell 1
      have ph1 : ∀ o, (w26.alloc o).cell? ⟨bh, 1, none⟩ = some (.slice Ahb (plR z0 z1).2.length chb) := fun o => keepA qh1
      have rh1 : bh < w26.heap.size := bxh.lt
      go_wp2_with fail
      clear qP10 pP10 rP10 qP11 pP11 rP11 qr0 pr0 rr0 qr1 pr1 rr1 qg0 pg0 rg0 qg1 pg1 rg1 qh0 ph0 rh0 qh1 ph1 rh1
      refine (eqLassoT _ _ _ _ _ _ _ _ (Nat.le_refl _) (oh.hold fh).reads (or.hold fr).reads).mono ?_; rintro e w27 ⟨rfl, hbw27⟩
      have zw27 := hbw27.size
      have hww27 := below_then hbw27 hww26.size hww26
      replace fr := fr.step hbw27
      replace fg := fg.step hbw27
      replace fh := fh.step hbw27
      replace bxP1 := bxP1.below hbw27 bxP1.lt
      replace bxr := bxr.below hbw27 bxr.lt
      replace bxg := bxg.below hbw27 bxg.lt
      replace bxh := bxh.below hbw27 bxh.lt
      rw [eqT_self]
      have qP10 : w27.cell? ⟨w.heap.size, 0, none⟩ = some (.slice A1a n1a c1a) := bxP1.cell 0
      have pP10 : ∀ o, (w27.alloc o).cell? ⟨w.heap.size, 0, none⟩ = some (.slice A1a n1a c1a) := fun o => keepA qP10
      have rP10 : w.heap.size < w27.heap.size := bxP1.lt
      have qP11 : w27.cell? ⟨w.heap.size, 1, none⟩ = some (.slice A1b n1b c1b) := bxP1.cell 1
      have pP11 : ∀ o, (w27.alloc o).cell? ⟨w.heap.size, 1, none⟩ = some (.slice A1b n1b c1b) := fun o => keepA qP11
      have rP11 : w.heap.size < w27.heap.size := bxP1.lt
      have qr0 : w27.cell? ⟨br, 0, none⟩ = some (.slice Ara (plR z0 z1).1.length cra) := bxr.cell 0
      have pr0 : ∀ o, (w27.alloc o).cell? ⟨br, 0, none⟩ = some (.slice Ara (plR z0 z1).1.length cra) := fun o => keepA qr0
      have rr0 : br < w27.heap.size := bxr.lt
      have qr1 : w27.cell? ⟨br, 1, none⟩ = some (.slice Arb (plR z0 z1).2.length crb) := bxr.cell 1
      have pr1 : ∀ o, (w27.alloc o).cell? ⟨br, 1, none⟩ = some (.slice Arb (plR z0 z1).2.length crb) := fun o => keepA qr1
      have rr1 : br < w27.heap.size := bxr.lt
      have qg0 : w27.cell? ⟨w11.heap.size, 0, none⟩ = some (.slice Aga (plR z0 z1).1.length cga) := bxg.cell 0
      have pg0 : ∀ o, (w27.alloc o).cell? ⟨w11.heap.size, 0, none⟩ = some (.slice Aga (plR z0 z1).1.length cga) := fun o => keepA qg0
      have rg0 : w11.heap.size < w27.heap.size := bxg.lt
      have qg1 : w27.cell? ⟨w11.heap.size, 1, none⟩ = some (.slice Agb (plR z0 z1).2.length cgb) := bxg.cell 1
      have pg1 : ∀ o, (w27.alloc o).cell? ⟨w11.heap.size, 1, none⟩ = some (.slice Agb (plR z0 z1).2.length cgb) := fun o => keepA qg1
      have rg1 : w11.heap.size < w27.heap.size := bxg.lt
      have qh0 : w27.cell? ⟨bh, 0, none⟩ = some (.slice Aha (plR z0 z1).1.length cha) := bxh.cell 0
      have ph0 : ∀ o, (w27.alloc o).cell? ⟨bh, 0, none⟩ = some (.slice Aha (plR z0 z1).1.length cha) := fun o => keepA qh0
      have rh0 : bh < w27.heap.size := bxh.lt
      have qh1 : w27.cell? ⟨bh, 1, none⟩ = some (.slice Ahb (plR z0 z1).2.length chb) := bxh.cell 1
      have ph1 : ∀ o, (w27.alloc o).cell? ⟨bh, 1, none⟩ = some (.slice Ahb (plR z0 z1).2.length chb) := fun o => keepA qh1
      have rh1 : bh < w27.heap.size := bxh.lt
      go_wp2_with fail
      clear qP10 pP10 rP10 qP11 pP11 rP11 qr0 pr0 rr0 qr1 pr1 rr1 qg0 pg0 rg0 qg1 pg1 rg1 qh0 ph0 rh0 qh1 ph1 rh1
      refine (heldLasso _ _ (plR z0 z1) 1 _ _ (Nat.le_refl _) (og.hold fg).reads (by omega) (by omega)).mono ?_; rintro e w28 ⟨rfl, hbw28⟩
      have zw28 := hbw28.size
      have hww28 := below_then hbw28 hww27.size hww27
      replace fr := fr.step hbw28
      replace fg := fg.step hbw28
      replace fh := fh.step hbw28
      replace bxP1 := bxP1.below hbw28 bxP1.lt
      replace bxr := bxr.below hbw28 bxr.lt
      replace bxg := bxg.below hbw28 bxg.lt
      replace bxh := bxh.below hbw28 bxh.lt
      have qP10 : w28.cell? ⟨w.heap.size, 0, none⟩ = some (.slice A1a n1a c1a) := bxP1.cell 0
      have qP11 : w28.cell? ⟨w.heap.size, 1, none⟩ = some (.slice A1b n1b c1b) := bxP1.cell 1
      have qr0 : w28.cell? ⟨br, 0, none⟩ = some (.slice Ara (plR z0 z1).1.length cra) := bxr.cell 0
      have qr1 : w28.cell? ⟨br, 1, none⟩ = some (.slice Arb (plR z0 z1).2.length crb) := bxr.cell 1
      have qg0 : w28.cell? ⟨w11.heap.size, 0, none⟩ = some (.slice Aga (plR z0 z1).1.length cga) := bxg.cell 0
      have qg1 : w28.cell? ⟨w11.heap.size, 1, none⟩ = some (.slice Agb (plR z0 z1).2.length cgb) := bxg.cell 1
      have qh0 : w28.cell? ⟨bh, 0, none⟩ = some (.slice Aha (plR z0 z1).1.length cha) := bxh.cell 0
      have qh1 : w28.cell? ⟨bh, 1, none⟩ = some (.slice Ahb (plR z0 z1).2.length chb) := bxh.cell 1
      go_wp2
      go_ret
      exact ⟨rfl, hww28⟩

theorem own : ownKnob Try.prog.godebug = none := by kernel_rfl
theorem laidOut : laidOutB Try.prog = true := by kernel_rfl
set_option maxRecDepth 100000 in
theorem lifted (os : Os) (started : os.Started) (H : Type) (enc : TypeId × Value → H) :
    ReturnsInHanded {} Try.checked os 3 .any (Rows.fnExactPlacesLassoSpec.pre6 enc Try.prog Try.f3 Rows.fnExactPlacesLassoRow.domain false) (Rows.fnExactPlacesLassoSpec.post enc Try.prog Try.f3 false true false false) := by
  refine returnsInHanded_of_change (C := Try.checked) own started (by kernel_rfl) Try.func3
    (ChangeSpec.witness6 (enc := enc) (C := Try.checked) false ⟨#[], #[.slice none 0 0, .agg #[.slice none 0 0, .slice none 0 0]], []⟩ 8 (by kernel_rfl) (by kernel_rfl) (by kernel_rfl) (by kernel_rfl)) ?_
  intro W base args ds gs before hval0 hW hcnd _
  have hval : ∀ (j : Nat) t v, Try.f3.params[j]? = some t → args[j]? = some v → Value.okWide Try.prog W .any base t v := hval0
  have hW' := hW
  obtain ⟨p, q, hA0, hV, rfl, hfz, hnd⟩ := hW
  have hA : DataW.TrodAll enc Try.prog W 0 (fun _ => true) true Try.f3.params.toList args.toList ds p := hA0
  rw [Try.params3] at hA hval
  obtain ⟨v0, vs0, d0, ds0, p0, q0, hargs, rfl, rfl, h0, r0⟩ := trodAll_cons hA
  obtain ⟨v1, vs1, d1, ds1, p1, q1, rfl, rfl, rfl, h1, r1⟩ := trodAll_cons r0
  obtain ⟨rfl, rfl, rfl⟩ := trodAll_nil r1
  obtain rfl : args = #[v0, v1] := by cases args; simp_all
  obtain ⟨rfl, rfl⟩ := trodVars_none hV
  have k0 := h0
  have lt0 : ∀ x ∈ p0, x.block < W.heap.size := by obtain ⟨m, hm⟩ := k0; exact DataW.trod_lt m _ _ _ hm
  obtain ⟨fuel0, hf0⟩ := h0
  obtain ⟨A0, n0, c0, rfl⟩ := okWide_slice Try.underlying22 (hval 0 22 v0 rfl rfl)
  obtain ⟨B0, m0, d0, ps0, e0, rr0⟩ := rqs_of_trod Try.underlying22 Try.underlying89 (by kernel_rfl) ⟨⟨by kernel_rfl, by kernel_rfl⟩, ⟨rfl, rfl⟩, rfl, rfl⟩ Try.underlying2 Try.underlying23 Try.underlying2 (by kernel_rfl) hf0
  injection e0 with ea0 eb0 ec0
  subst ea0; subst eb0; subst ec0
  have k1 := h1
  have lt1 : ∀ x ∈ p1, x.block < W.heap.size := by obtain ⟨m, hm⟩ := k1; exact DataW.trod_lt m _ _ _ hm
  obtain ⟨c1, e1, y1, z1, m1, rfl, rfl, rfl, hy1, hz1⟩ := Go.Joins.open_agg2 Try.underlying25 (by kernel_rfl) (by kernel_rfl) (hval 1 25 v1 rfl rfl) h1
  obtain ⟨A1a, n1a, c1a, x1a, rfl, r1a⟩ := ri_of_trod Try.underlying23 Try.underlying2 (by kernel_rfl) hy1
  obtain ⟨A1b, n1b, c1b, x1b, rfl, r1b⟩ := ri_of_trod Try.underlying23 Try.underlying2 (by kernel_rfl) hz1
  clear hA0 hval0
  refine (walk _ _ _ _ _ _ _ _ _ _ (x1a, x1b) W rr0 (RTv.of r1a r1b)).mono fun e W' ⟨he, bel⟩ => ?_
  subst he
  exact ⟨_, rfl, _, _, _, [], _, [], hW', trodAll_mk1 (shut_bool Try.underlying4 _), (trodAll_cons_mk (Below.trod laidOut (by kernel_rfl) (of_decide_eq_true (by kernel_rfl)) k0 bel lt0) (trodAll_cons_mk (Below.trod laidOut (by kernel_rfl) (of_decide_eq_true (by kernel_rfl)) k1 bel lt1) trodAll_mk0)), rfl, bel.frame _, fun h => by cases h⟩
theorem over : Rows.fnExactPlacesLassoRow.holds Try.pinned (OpenSpec.ofChange Rows.fnExactPlacesLassoSpec) :=
  OpenClaim.holds_of_wide 3 Try.f3 rfl rfl rfl rfl rfl rfl rfl ⟨rfl, rfl, rfl, rfl, rfl⟩ rfl rfl rfl rfl rfl (by kernel_rfl) Try.func3 (by kernel_rfl)
    (of_decide_eq_true (by kernel_rfl)) (by unfold Func.isWrapper; first | (rw [if_pos (by decide +kernel)]; kernel_rfl) | (rw [if_neg (by decide +kernel)]; exact ⟨rfl, rfl⟩))
    (fun os started H enc _ => lifted os started H enc)
/-- the statement -/
theorem proved : Rows.FnExactPlacesLassoSaid := over
end Go.Proofs.Ytgbiceilcmhimaa.fnExactPlacesLasso

