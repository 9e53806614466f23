/- LassoOk, isLasso, metBy; LassoWell, spec and impl. -/
import Derived.Test.YtefjhkcafcchlaaTwo
import Derived.Test.YtefjhkcafcchlaaArena
import Derived.Test.YtefjhkcafcchlaaArenaL
import Derived.Test.YtefjhkcafcchlaaCopy
import Derived.Test.YtefjhkcafcchlaaBroken
import Derived.Test.YtefjhkcafcchlaaSearch
import Derived.Test.YtefjhkcafcchlaaSort
import Derived.Test.YtefjhkcafcchlaaHand
import Derived.Test.YtefjhkcafcchlaaHas
import Derived.Test.YtefjhkcafcchlaaAcc
import Derived.IntWalk
namespace Go.Proofs.Ytefjhkcafcchlaa
open Go.RowKit

theorem twoH_2_10 {P : Program} {Q : Exit → Act → World → Prop} {md : Region.Mode} {S : World → Prop} {fuel : Nat} {listed : Array Bool} {a : Act} {w : World} {o0 o1 o2 o3 o4 o5 o6 o7 o8 o9 o10 : Oper} {r : List Oper} (hr : Region.ready md (List.toArray (o0 :: o1 :: o2 :: o3 :: o4 :: o5 :: o6 :: o7 :: o8 :: o9 :: o10 :: r)) listed = [2, 10])
    (h1 : ∀ K' : Act → World → Prop, Shut (∀ a w, S w → (S w → wpAnyH P md (List.toArray (o0 :: o1 :: o2 :: o3 :: o4 :: o5 :: o6 :: o7 :: o8 :: o9 :: o10 :: r)) Q S fuel (listed.setIfInBounds 2 true) a w) → K' a w) → if Region.wanted o2 (yielded (List.toArray (o0 :: o1 :: o2 :: o3 :: o4 :: o5 :: o6 :: o7 :: o8 :: o9 :: o10 :: r)) a.tmps) = true then Oper.wp P o2 a w K' Q else K' (a.put o2.dst undef) w) (h2 : ∀ K' : Act → World → Prop, Shut (∀ a w, S w → (S w → wpAnyH P md (List.toArray (o0 :: o1 :: o2 :: o3 :: o4 :: o5 :: o6 :: o7 :: o8 :: o9 :: o10 :: r)) Q S fuel (listed.setIfInBounds 10 true) a w) → K' a w) → if Region.wanted o10 (yielded (List.toArray (o0 :: o1 :: o2 :: o3 :: o4 :: o5 :: o6 :: o7 :: o8 :: o9 :: o10 :: r)) a.tmps) = true then Oper.wp P o10 a w K' Q else K' (a.put o10.dst undef) w) : wpAnyH P md (List.toArray (o0 :: o1 :: o2 :: o3 :: o4 :: o5 :: o6 :: o7 :: o8 :: o9 :: o10 :: r)) Q S (fuel + 1) listed a w :=
  wpAnyH_ready (rs := [2, 10]) hr (by simp) (AllReadyH.cons rfl h1 (AllReadyH.cons rfl h2 AllReadyH.nil))
theorem twoH_5_10 {P : Program} {Q : Exit → Act → World → Prop} {md : Region.Mode} {S : World → Prop} {fuel : Nat} {listed : Array Bool} {a : Act} {w : World} {o0 o1 o2 o3 o4 o5 o6 o7 o8 o9 o10 : Oper} {r : List Oper} (hr : Region.ready md (List.toArray (o0 :: o1 :: o2 :: o3 :: o4 :: o5 :: o6 :: o7 :: o8 :: o9 :: o10 :: r)) listed = [5, 10])
    (h1 : ∀ K' : Act → World → Prop, Shut (∀ a w, S w → (S w → wpAnyH P md (List.toArray (o0 :: o1 :: o2 :: o3 :: o4 :: o5 :: o6 :: o7 :: o8 :: o9 :: o10 :: r)) Q S fuel (listed.setIfInBounds 5 true) a w) → K' a w) → if Region.wanted o5 (yielded (List.toArray (o0 :: o1 :: o2 :: o3 :: o4 :: o5 :: o6 :: o7 :: o8 :: o9 :: o10 :: r)) a.tmps) = true then Oper.wp P o5 a w K' Q else K' (a.put o5.dst undef) w) (h2 : ∀ K' : Act → World → Prop, Shut (∀ a w, S w → (S w → wpAnyH P md (List.toArray (o0 :: o1 :: o2 :: o3 :: o4 :: o5 :: o6 :: o7 :: o8 :: o9 :: o10 :: r)) Q S fuel (listed.setIfInBounds 10 true) a w) → K' a w) → if Region.wanted o10 (yielded (List.toArray (o0 :: o1 :: o2 :: o3 :: o4 :: o5 :: o6 :: o7 :: o8 :: o9 :: o10 :: r)) a.tmps) = true then Oper.wp P o10 a w K' Q else K' (a.put o10.dst undef) w) : wpAnyH P md (List.toArray (o0 :: o1 :: o2 :: o3 :: o4 :: o5 :: o6 :: o7 :: o8 :: o9 :: o10 :: r)) Q S (fuel + 1) listed a w :=
  wpAnyH_ready (rs := [5, 10]) hr (by simp) (AllReadyH.cons rfl h1 (AllReadyH.cons rfl h2 AllReadyH.nil))

/-- a lasso's vertices, the loop's first once more; what is asked of the one at i -/
def lasAll (z : TwoD) : List Int := (z.1 ++ z.2) ++ [gi z.2 0]
def lasAt (o : List Int) (n : List (List Int)) (l : List Int) (i : Nat) : Prop := (0 ≤ gi l i ∧ gi l i < (o.length : Int)) ∧ (0 < i → hasL (gl n (gi l (i - 1)).toNat) (gi l i) = true)
noncomputable def lasE (o : List Int) (n : List (List Int)) (z : TwoD) : Bool := decide (z.1.length ≤ 256 ∧ 1 ≤ z.2.length ∧ z.2.length ≤ 256) && @decide (∀ i, i < (lasAll z).length → lasAt o n (lasAll z) i) (Classical.propDecidable _)
noncomputable def lasB (o : List Int) (n : List (List Int)) (z : TwoD) : Bool := arB o n && lasE o n z
section
variable {o : List Int} {n : List (List Int)} {z : TwoD}
theorem lasE_len (h : ¬ (z.1.length ≤ 256 ∧ 1 ≤ z.2.length ∧ z.2.length ≤ 256)) : lasE o n z = false := by unfold lasE; rw [decide_eq_false h]; rfl
theorem lasE_no {i : Nat} (hi : i < (lasAll z).length) (h : ¬ lasAt o n (lasAll z) i) : lasE o n z = false := by
  unfold lasE
  rw [@decide_eq_false _ (Classical.propDecidable _) (fun c => h (c i hi)), Bool.and_false]
theorem lasE_yes (h : z.1.length ≤ 256 ∧ 1 ≤ z.2.length ∧ z.2.length ≤ 256) (h2 : ∀ i, i < (lasAll z).length → lasAt o n (lasAll z) i) : lasE o n z = true := by
  unfold lasE
  rw [decide_eq_true h, @decide_eq_true _ (Classical.propDecidable _) h2]; rfl
theorem lasB_no (h : arB o n = false) : lasB o n z = false := by unfold lasB; rw [h]; rfl
theorem lasB_eq (h : arB o n = true) : lasB o n z = lasE o n z := by unfold lasB; rw [h]; rfl
end
theorem broken_mem {ps : List PairD} {a b : List Int} (h : ∀ x, x ∈ a ↔ x ∈ b) : brokenL ps a = brokenL ps b := by
  have hm : ∀ c, meetB c a = meetB c b := fun c => decide_eq_decide.2 ⟨fun ⟨x, h1, h2⟩ => ⟨x, h1, (h x).1 h2⟩, fun ⟨x, h1, h2⟩ => ⟨x, h1, (h x).2 h2⟩⟩
  unfold brokenL brokenUp
  congr 1
  funext k
  unfold brokenAt
  rw [hm, hm]

def thereB (v : Int) (n : Nat) : Bool := decide (0 ≤ v ∧ v < (n : Int))
set_option maxRecDepth 100000 in
theorem l1ThereB (A0 A1 : Option Addr) (n0 c0 n1 c1 : Nat) (v : Int) (w : World) (B : Nat) (hB : B ≤ w.heap.size) (hn0 : n0 ≤ 256) :
    Calls Try.prog 140 #[.agg #[.slice A0 n0 c0, .slice A1 n1 c1], .int .i64 v] w fun e w' => e = .returned (.bool (thereB v n0)) ∧ Below B w w' := by
  have hba : Below w.heap.size w (w.alloc (.cells #[.slice A0 n0 c0, .slice A1 n1 c1] 30)) := below_alloc (Nat.le_refl _) (Below.refl _ _)
  have q0 := (Box.new w 30 #[.slice A0 n0 c0, .slice A1 n1 c1]).d0
  have EI := Lib.hid (show inR v 0 ((n0 : Int) - 1) = thereB v n0 from decide_eq_decide.2 (by omega))
  go_enter Try.func140, Try.ntmps140
  go_wp2_with fail
  refine (l1In _ _ _ _).mono ?_; rintro e w2 ⟨rfl, q2⟩
  rw [EI.out]
  go_wp2
  go_ret
  exact ⟨rfl, (below_then (below_qt q2 (Below.refl _ _)) hba.size hba).mono hB⟩
set_option maxRecDepth 100000 in
theorem hasVertex (A0 A1 : Option Addr) (n0 c0 n1 c1 : Nat) (v : Int) (w : World) (B : Nat) (hB : B ≤ w.heap.size) (hn0 : n0 ≤ 256) :
    Calls Try.prog 124 #[.agg #[.slice A0 n0 c0, .slice A1 n1 c1], .int .i64 v] w fun e w' => e = .returned (.bool (thereB v n0)) ∧ Below B w w' := by
  have hba : Below w.heap.size w (w.alloc (.cells #[.slice A0 n0 c0, .slice A1 n1 c1] 30)) := below_alloc (Nat.le_refl _) (Below.refl _ _)
  have q0 := (Box.new w 30 #[.slice A0 n0 c0, .slice A1 n1 c1]).d0
  have q1 := (Box.new w 30 #[.slice A0 n0 c0, .slice A1 n1 c1]).d1
  by_cases h0 : 0 ≤ v
  · by_cases h1 : v < (n0 : Int)
    · have E := Lib.hid (show thereB v n0 = true from decide_eq_true ⟨h0, h1⟩)
      go_enter Try.func124, Try.ntmps124
      go_wp2
      go_ret
      exact ⟨ret_b E.out.symm, by first | exact below_alloc (Nat.le_trans hB (by simp)) (hba.mono hB) | exact hba.mono hB⟩
    · have E := Lib.hid (show thereB v n0 = false from decide_eq_false fun h => h1 h.2)
      go_enter Try.func124, Try.ntmps124
      go_wp2
      go_ret
      exact ⟨ret_b E.out.symm, by first | exact below_alloc (Nat.le_trans hB (by simp)) (hba.mono hB) | exact hba.mono hB⟩
  · have E := Lib.hid (show thereB v n0 = false from decide_eq_false fun h => h0 h.1)
    go_enter Try.func124, Try.ntmps124
    go_wp2
    go_ret
    exact ⟨ret_b E.out.symm, by first | exact below_alloc (Nat.le_trans hB (by simp)) (hba.mono hB) | exact hba.mono hB⟩


set_option maxRecDepth 100000 in
set_option maxHeartbeats 3200000 in
theorem specLassoOk (A0 A1 S L : Option Addr) (n0 c0 n1 c1 m d k f : Nat) (o : List Int) (n : List (List Int)) (z : TwoD) (w : World) (B : Nat) (hB : B ≤ w.heap.size) (ha : RI w A0 n0 c0 o) (hb : RII w A1 n1 c1 n) (hs : RI w S m d z.1) (hl : RI w L k f z.2) :
    Calls Try.prog 153 #[.agg #[.slice A0 n0 c0, .slice A1 n1 c1], .agg #[.slice S m d, .slice L k f]] w fun e w' => e = .returned (.bool (lasB o n z)) ∧ Below B w w' := by
  have b1 := hs.cap; have b2 := hs.top; have b3 := hl.cap; have b4 := hl.top
  have HM := Lib.hid hs.len; have HK := Lib.hid hl.len; have HO := Lib.hid ha.len; have HN := Lib.hid hb.len
  have hba : Below w.heap.size w ((w.alloc (.cells #[.slice A0 n0 c0, .slice A1 n1 c1] 30)).alloc (.cells #[.slice S m d, .slice L k f] 41)) := below_alloc (Nat.le_refl _) (below_alloc (Nat.le_refl _) (Below.refl _ _))
  have bx := (Box.new w 30 #[.slice A0 n0 c0, .slice A1 n1 c1]).alloc (.cells #[.slice S m d, .slice L k f] 41)
  have bl : Box ((w.alloc (.cells #[.slice A0 n0 c0, .slice A1 n1 c1] 30)).alloc (.cells #[.slice S m d, .slice L k f] 41)) (w.heap.size + 1) 41 #[.slice S m d, .slice L k f] := Box.new' (by simp)
  have q0 := bx.d0; have q1 := bx.d1; have p0 := bl.d0; have p1 := bl.d1

  cases har : arB o n with
  | false =>
    have E := Lib.hid (lasB_no (z := z) har)
    have HAR := Lib.hid har
    clear har
    go_enter Try.func153, Try.ntmps153
    go_wp2_with fail
    refine (specArenaOk _ _ _ _ _ _ o n _ _ (Nat.le_refl _) (ha.keep (keeps_below hba)) (hb.keep (keeps_below hba))).mono ?_; rintro e w1 ⟨rfl, hb1⟩
    rw [HAR.out]
    have hw1 := below_then hb1 hba.size hba
    go_wp2
    go_ret
    exact ⟨ret_b E.out.symm, hw1.mono hB⟩
  | true =>
    have EB := Lib.hid (lasB_eq (z := z) har)
    have HAR := Lib.hid har
    have hf := fineAr_of har
    have hn0 : n0 ≤ 256 := by have := hf.2.1; rw [HO.out] at this; exact this
    have H01 := Lib.hid (show n1 = n0 by rw [← HN.out, hf.2.2.1, HO.out])
    have HF := Lib.hid hf
    clear har hf
    by_cases hm1 : m ≤ 256
    · by_cases hk1 : 1 ≤ k
      · by_cases hk2 : k ≤ 256
        · have HLN := Lib.hid (show z.1.length ≤ 256 ∧ 1 ≤ z.2.length ∧ z.2.length ≤ 256 by rw [HM.out, HK.out]; exact ⟨hm1, hk1, hk2⟩)
          have HAL := Lib.hid (show (lasAll z).length = m + k + 1 by unfold lasAll; simp [HM.out, HK.out]; omega)
          obtain ⟨bL, oL, rfl, hcL⟩ := hl.at_ (show 0 < k by omega)
          rw [Nat.add_zero] at hcL
          go_enter Try.func153, Try.ntmps153
          go_wp2_with fail
          refine (specArenaOk _ _ _ _ _ _ o n _ _ (Nat.le_refl _) (ha.keep (keeps_below hba)) (hb.keep (keeps_below hba))).mono ?_; rintro e w1 ⟨rfl, hb1⟩
          rw [HAR.out]
          have hw1 := below_then hb1 hba.size hba
          replace bx := bx.below hb1 bx.lt; replace bl := bl.below hb1 bl.lt
          clear q0 q1 p0 p1 hb1 hba
          have p0 := bl.d0; have p1 := bl.d1
          have hcL1 := keeps_below hw1 _ _ hcL
          have hk1i : (1 : Int) ≤ (k : Int) := by omega
          have hk1n : 0 < k := by omega
          go_wp2_with fail
          refine wp_region_held_drew (S := fun w' => w'.cell? ⟨w.heap.size + 1, 0, none⟩ = some (.slice S m d) ∧ w'.cell? ⟨w.heap.size + 1, 1, none⟩ = some (.slice (some ⟨bL, oL, none⟩) k f) ∧ w'.cell? ⟨bL, oL, none⟩ = some (.int .i64 (gi z.2 0))) (by kernel_rfl) ⟨p0, p1, hcL1⟩ (fun hHeld => ?_)
          replace hw1 : Below w.heap.size w w1.drew := Below.drew hw1
          replace bx : Box w1.drew _ _ _ := bx
          replace bl : Box w1.drew _ _ _ := bl
          have hD : w1.heap.size = w1.drew.heap.size := rfl
          clear hcL1 p0 p1
          generalize w1.drew = W at *
          clear hD
          have hcW := keeps_below hw1 _ _ hcL
          have sW := hw1.size
          refine takeH0 (v := ?_) (by kernel_rfl) (by kernel_rfl) (by kernel_rfl) (fun _ _ _ h => h) hHeld (by rfl) ?_ ?_
          rotate_left; · (intro w hSw; (try dsimp only at hSw); go_simp; try with_reducible rfl)
          try simp only [Act.put, List.setIfInBounds_toArray, List.set_cons_zero, List.set_cons_succ]
          refine takeH1 (v := ?_) (by kernel_rfl) (by kernel_rfl) (by kernel_rfl) (fun _ _ _ h => h) hHeld (by rfl) ?_ ?_
          rotate_left; · (intro w hSw; (try dsimp only at hSw); go_simp; try with_reducible rfl)
          try simp only [Act.put, List.setIfInBounds_toArray, List.set_cons_zero, List.set_cons_succ]
          refine takeH3 (v := ?_) (by kernel_rfl) (by kernel_rfl) (by kernel_rfl) (fun _ _ _ h => h) hHeld (by rfl) ?_ ?_
          rotate_left; · (intro w hSw; (try dsimp only at hSw); go_simp; try with_reducible rfl)
          try simp only [Act.put, List.setIfInBounds_toArray, List.set_cons_zero, List.set_cons_succ]
          refine takeH4 (v := ?_) (by kernel_rfl) (by kernel_rfl) (by kernel_rfl) (fun _ _ _ h => h) hHeld (by rfl) ?_ ?_
          rotate_left; · (intro w hSw; (try dsimp only at hSw); go_simp; try with_reducible rfl)
          try simp only [Act.put, List.setIfInBounds_toArray, List.set_cons_zero, List.set_cons_succ]
          refine takeH6 (v := ?_) (by kernel_rfl) (by kernel_rfl) (by kernel_rfl) (fun _ _ _ h => h) hHeld (by rfl) ?_ ?_
          rotate_left; · (intro w hSw; (try dsimp only at hSw); go_simp; try with_reducible rfl)
          try simp only [Act.put, List.setIfInBounds_toArray, List.set_cons_zero, List.set_cons_succ]
          refine takeH7 (v := ?_) (by kernel_rfl) (by kernel_rfl) (by kernel_rfl) (fun _ _ _ h => h) hHeld (by rfl) ?_ ?_
          rotate_left; · (intro w hSw; (try dsimp only at hSw); go_simp; try with_reducible rfl)
          try simp only [Act.put, List.setIfInBounds_toArray, List.set_cons_zero, List.set_cons_succ]
          refine takeH8 (v := ?_) (by kernel_rfl) (by kernel_rfl) (by kernel_rfl) (fun _ _ _ h => h) hHeld (by rfl) ?_ ?_
          rotate_left; · (intro w hSw; (try dsimp only at hSw); go_simp; try with_reducible rfl)
          try simp only [Act.put, List.setIfInBounds_toArray, List.set_cons_zero, List.set_cons_succ]
          refine takeH9 (v := ?_) (by kernel_rfl) (by kernel_rfl) (by kernel_rfl) (fun _ _ _ h => h) hHeld (by rfl) ?_ ?_
          rotate_left; · (intro w hSw; (try dsimp only at hSw); go_simp; try with_reducible rfl)
          try simp only [Act.put, List.setIfInBounds_toArray, List.set_cons_zero, List.set_cons_succ]
          refine twoH_2_10 (by kernel_rfl) (fun K hK => ?_) (fun K hK => ?_)
          · go_simp
            go_at_call 143
            refine (l1Copy _ _ _ z.1 _ _ (Nat.le_refl _) (hs.keep (keeps_below hw1)) (by omega)).mono ?_; rintro e wc ⟨vc, rfl, hoc, hbc⟩
            obtain ⟨Ac, cc, rfl⟩ := hoc.form
            have hwc : Below w.heap.size w wc := below_then hbc hw1.size hw1
            have blc := bl.below hbc bl.lt
            have hcc := keeps_below hwc _ _ hcL
            have bxc := bx.below hbc bx.lt
            have lc1 : w.heap.size + 2 ≤ W.heap.size := by have := bl.lt; omega
            have lc2 := hbc.size
            go_wp2_with fail
            refine hK.out _ _ (⟨blc.d0, blc.d1, hcc⟩) (fun hHeld => ?_)
            clear hK K
            try simp only [Act.put, List.setIfInBounds_toArray, List.set_cons_zero, List.set_cons_succ]
            refine twoH_5_10 (by kernel_rfl) (fun K hK => ?_) (fun K hK => ?_)
            · refine step_of_list (by rfl) (wp_appI (.tmp 30) (.tmp 32) (by rfl) wc W.heap.size (.slice Ac z.1.length cc) z.1 (by rfl) hoc (some ⟨bL, oL, none⟩) k f z.2 (by rfl) (hl.keep (keeps_below hwc)) (by rw [HM.out]; omega) (by omega) (by omega) ?_)
              intro va wa hoa hba hca hata
              clear hata
              clear hca
              have hwa : Below w.heap.size w wa := hwc.trans (hba.mono (by omega))
              have bla := blc.below hba (by omega)
              have hcaL := keeps_below hwa _ _ hcL
              have bxa := bxc.below hba (by omega)
              generalize hZA : z.1 ++ z.2 = ZA at *
              have HZA := Lib.hid hZA
              have hZl : ZA.length ≤ 512 := by rw [← hZA, List.length_append, HM.out, HK.out]; omega
              clear hZA
              obtain ⟨Aa, ca, rfl⟩ := hoa.form
              have la2 := hba.size
              refine hK.out _ _ (⟨bla.d0, bla.d1, hcaL⟩) (fun hHeld => ?_)
              clear hK K
              try simp only [Act.put, List.setIfInBounds_toArray, List.set_cons_zero, List.set_cons_succ]
              have hlbA : Below wa.heap.size wa (wa.alloc (.cells #[.int .i64 (gi z.2 0)] 2)) := below_alloc (Nat.le_refl _) (Below.refl _ _)
              have honeA : RI (wa.alloc (.cells #[.int .i64 (gi z.2 0)] 2)) (some ⟨wa.heap.size, 0, none⟩) 1 1 [gi z.2 0] := RI.one1 ((Box.new wa 2 #[.int .i64 (gi z.2 0)]).cell 0)
              have hwA : Below w.heap.size w (wa.alloc (.cells #[.int .i64 (gi z.2 0)] 2)) := below_then hlbA hwa.size hwa
              have blA := bla.below hlbA bla.lt
              have bxA := bxa.below hlbA bxa.lt
              have hoA := hoa.below hlbA
              have lA := hlbA.size
              refine callH10 (by kernel_rfl) (fun K hK => ?_)
              go_simp
              refine hK.out _ _ (⟨keepA bla.d0, keepA bla.d1, keepA hcaL⟩) (fun hHeld => ?_)
              clear hK K
              try simp only [Act.put, List.setIfInBounds_toArray, List.set_cons_zero, List.set_cons_succ]
              refine callH11 (by kernel_rfl) (fun K hK => ?_)
              refine step_of_list (by rfl) (wp_appI (.tmp 33) (.tmp 38) (by rfl) (wa.alloc (.cells #[.int .i64 (gi z.2 0)] 2)) W.heap.size (.slice Aa ZA.length ca) ZA (by rfl) hoA (some ⟨wa.heap.size, 0, none⟩) 1 1 [gi z.2 0] (by rfl) honeA (by omega) (by omega) (by omega) ?_)
              intro v9 w9 ho9 hb9 hc9 hat9
              clear hc9 hat9
              generalize hLA : ZA ++ [gi z.2 0] = LA at *
              have HLA := Lib.hid (show LA = lasAll z by rw [← hLA, ← HZA.out]; rfl)
              clear hLA
              obtain ⟨A9, c9, rfl⟩ := ho9.form
              have hw9 : Below w.heap.size w w9 := hwA.trans (hb9.mono (by omega))
              have bl9 := blA.below hb9 (by omega)
              have hc9L := keeps_below hw9 _ _ hcL
              have bx9 := bxA.below hb9 (by omega)
              refine hK.out _ _ (⟨bl9.d0, bl9.d1, hc9L⟩) (fun hHeld => ?_)
              clear hK K
              try simp only [Act.put, List.setIfInBounds_toArray, List.set_cons_zero, List.set_cons_succ]
              refine takeH12 (v := ?_) (by kernel_rfl) (by kernel_rfl) (by kernel_rfl) (fun _ _ _ h => h) hHeld (by rfl) ?_ ?_
              rotate_left; · (intro w hSw; (try dsimp only at hSw); go_simp; try with_reducible rfl)
              try simp only [Act.put, List.setIfInBounds_toArray, List.set_cons_zero, List.set_cons_succ]
              refine wpAnyH_done (by kernel_rfl) ?_ _
              have hl9 : LA.length = m + k + 1 := by rw [HLA.out]; exact HAL.out
              have HE := Lib.hid (show (∀ i, i < LA.length → lasAt o n LA i) → lasB o n z = true from fun h => by rw [EB.out]; exact lasE_yes HLN.out (by rw [← HLA.out]; exact h))
              have HX := Lib.hid (show ∀ i, i < LA.length → ¬ lasAt o n LA i → lasB o n z = false from fun i hi h => by rw [EB.out]; exact lasE_no (by rw [← HLA.out]; exact hi) (by rw [← HLA.out]; exact h))
              have hr9 := ho9.reads
              have HL9 := Lib.hid hl9
              have hl9a : LA.length ≤ 513 := by omega
              clear hl9 HLA
              generalize hLL : LA.length = LL at *
              have HLL := Lib.hid hLL
              clear hLL
              go_wp2
              go_loopw [6] (fun i wr => ∃ j : Nat, j ≤ LL ∧ i = .int .i64 j ∧ (∀ i, i < j → lasAt o n LA i) ∧ Below w9.heap.size w9 wr) (fun i _ => LL - (intOf i).toNat)
              case atStart => exact ⟨0, Nat.zero_le _, rfl, fun i h => absurd h (by omega), Below.refl _ _⟩
              case round =>
                obtain ⟨j, hj, rfl, hall, hbr⟩ := hrel
                have HALL := Lib.hid hall
                clear hall
                have bxr := bx9.below hbr bx9.lt
                have hwr := below_then hbr hw9.size hw9
                by_cases hlt : j < LL
                · obtain ⟨b9, o9, rfl, hc9⟩ := hr9.at_ hlt
                  have hcj := keeps_below hbr _ _ hc9
                  have g0 := bxr.d0; have g1 := bxr.d1
                  have hji : (j : Int) < (LL : Int) := by omega
                  have hj0 : (0 : Int) ≤ (j : Int) := by omega
                  cases hth : thereB (gi LA j) n0 with
                  | false =>
                    have E := Lib.hid (HX.out j hlt (fun h => by have := of_decide_eq_false hth; rw [← HO.out] at this; exact this h.1))
                    have HTH := Lib.hid hth
                    clear hth
                    go_wp2_with fail
                    refine wp_region_held_drew (S := fun w' => w'.cell? ⟨w.heap.size, 0, none⟩ = some (.slice A0 n0 c0) ∧ w'.cell? ⟨w.heap.size, 1, none⟩ = some (.slice A1 n1 c1) ∧ w'.cell? ⟨b9, o9 + j, none⟩ = some (.int .i64 (gi LA j))) (by kernel_rfl) (⟨g0, g1, hcj⟩) (fun hHeld => ?_)
                    refine takeH0 (v := ?_) (by kernel_rfl) (by kernel_rfl) (by kernel_rfl) (fun _ _ _ h => h) hHeld (by rfl) ?_ ?_
                    rotate_left; · (intro w hSw; (try dsimp only at hSw); go_simp; try with_reducible rfl)
                    try simp only [Act.put, List.setIfInBounds_toArray, List.set_cons_zero, List.set_cons_succ]
                    refine takeH1 (v := ?_) (by kernel_rfl) (by kernel_rfl) (by kernel_rfl) (fun _ _ _ h => h) hHeld (by rfl) ?_ ?_
                    rotate_left; · (intro w hSw; (try dsimp only at hSw); go_simp; try with_reducible rfl)
                    try simp only [Act.put, List.setIfInBounds_toArray, List.set_cons_zero, List.set_cons_succ]
                    refine takeH2 (v := ?_) (by kernel_rfl) (by kernel_rfl) (by kernel_rfl) (fun _ _ _ h => h) hHeld (by rfl) ?_ ?_
                    rotate_left; · (intro w hSw; (try dsimp only at hSw); go_simp; try with_reducible rfl)
                    try simp only [Act.put, List.setIfInBounds_toArray, List.set_cons_zero, List.set_cons_succ]
                    refine takeH3 (v := ?_) (by kernel_rfl) (by kernel_rfl) (by kernel_rfl) (fun _ _ _ h => h) hHeld (by rfl) ?_ ?_
                    rotate_left; · (intro w hSw; (try dsimp only at hSw); go_simp; try with_reducible rfl)
                    try simp only [Act.put, List.setIfInBounds_toArray, List.set_cons_zero, List.set_cons_succ]
                    refine takeH4 (v := ?_) (by kernel_rfl) (by kernel_rfl) (by kernel_rfl) (fun _ _ _ h => h) hHeld (by rfl) ?_ ?_
                    rotate_left; · (intro w hSw; (try dsimp only at hSw); go_simp; try with_reducible rfl)
                    try simp only [Act.put, List.setIfInBounds_toArray, List.set_cons_zero, List.set_cons_succ]
                    refine callH5 (by kernel_rfl) (fun K hK => ?_)
                    go_simp
                    go_at_call 140
                    refine (l1ThereB _ _ _ _ _ _ _ _ _ (Nat.le_refl _) (by omega)).mono ?_; rintro e wt ⟨rfl, hbt⟩
                    rw [HTH.out]
                    have hbt2 := below_then hbt (Nat.le_refl _) (Below.drew (Below.refl wr.heap.size wr))
                    have bxt := bxr.below hbt2 bxr.lt
                    have hct := keeps_below hbt2 _ _ hcj
                    go_wp2_with fail
                    refine hK.out _ _ (⟨bxt.d0, bxt.d1, hct⟩) (fun hHeld => ?_)
                    clear hK K
                    try simp only [Act.put, List.setIfInBounds_toArray, List.set_cons_zero, List.set_cons_succ]
                    refine takeH6 (v := ?_) (by kernel_rfl) (by kernel_rfl) (by kernel_rfl) (fun _ _ _ h => h) hHeld (by rfl) ?_ ?_
                    rotate_left; · (intro w hSw; (try dsimp only at hSw); go_simp; try with_reducible rfl)
                    try simp only [Act.put, List.setIfInBounds_toArray, List.set_cons_zero, List.set_cons_succ]
                    refine takeH7 (v := ?_) (by kernel_rfl) (by kernel_rfl) (by kernel_rfl) (fun _ _ _ h => h) hHeld (by rfl) ?_ ?_
                    rotate_left; · (intro w hSw; (try dsimp only at hSw); go_simp; try with_reducible rfl)
                    try simp only [Act.put, List.setIfInBounds_toArray, List.set_cons_zero, List.set_cons_succ]
                    refine skipH8 (by kernel_rfl) (by kernel_rfl) (by kernel_rfl) (fun _ _ _ h => h) hHeld (by rfl) ?_
                    try simp only [Act.put, List.setIfInBounds_toArray, List.set_cons_zero, List.set_cons_succ]
                    refine skipH9 (by kernel_rfl) (by kernel_rfl) (by kernel_rfl) (fun _ _ _ h => h) hHeld (by rfl) ?_
                    try simp only [Act.put, List.setIfInBounds_toArray, List.set_cons_zero, List.set_cons_succ]
                    refine skipH10 (by kernel_rfl) (by kernel_rfl) (by kernel_rfl) (fun _ _ _ h => h) hHeld (by rfl) ?_
                    try simp only [Act.put, List.setIfInBounds_toArray, List.set_cons_zero, List.set_cons_succ]
                    refine skipH11 (by kernel_rfl) (by kernel_rfl) (by kernel_rfl) (fun _ _ _ h => h) hHeld (by rfl) ?_
                    try simp only [Act.put, List.setIfInBounds_toArray, List.set_cons_zero, List.set_cons_succ]
                    refine skipH12 (by kernel_rfl) (by kernel_rfl) (by kernel_rfl) (fun _ _ _ h => h) hHeld (by rfl) ?_
                    try simp only [Act.put, List.setIfInBounds_toArray, List.set_cons_zero, List.set_cons_succ]
                    refine skipH13 (by kernel_rfl) (by kernel_rfl) (by kernel_rfl) (fun _ _ _ h => h) hHeld (by rfl) ?_
                    try simp only [Act.put, List.setIfInBounds_toArray, List.set_cons_zero, List.set_cons_succ]
                    refine skipH14 (by kernel_rfl) (by kernel_rfl) (by kernel_rfl) (fun _ _ _ h => h) hHeld (by rfl) ?_
                    try simp only [Act.put, List.setIfInBounds_toArray, List.set_cons_zero, List.set_cons_succ]
                    refine skipH15 (by kernel_rfl) (by kernel_rfl) (by kernel_rfl) (fun _ _ _ h => h) hHeld (by rfl) ?_
                    try simp only [Act.put, List.setIfInBounds_toArray, List.set_cons_zero, List.set_cons_succ]
                    refine skipH16 (by kernel_rfl) (by kernel_rfl) (by kernel_rfl) (fun _ _ _ h => h) hHeld (by rfl) ?_
                    try simp only [Act.put, List.setIfInBounds_toArray, List.set_cons_zero, List.set_cons_succ]
                    refine skipH17 (by kernel_rfl) (by kernel_rfl) (by kernel_rfl) (fun _ _ _ h => h) hHeld (by rfl) ?_
                    try simp only [Act.put, List.setIfInBounds_toArray, List.set_cons_zero, List.set_cons_succ]
                    refine skipH18 (by kernel_rfl) (by kernel_rfl) (by kernel_rfl) (fun _ _ _ h => h) hHeld (by rfl) ?_
                    try simp only [Act.put, List.setIfInBounds_toArray, List.set_cons_zero, List.set_cons_succ]
                    refine skipH19 (by kernel_rfl) (by kernel_rfl) (by kernel_rfl) (fun _ _ _ h => h) hHeld (by rfl) ?_
                    try simp only [Act.put, List.setIfInBounds_toArray, List.set_cons_zero, List.set_cons_succ]
                    refine skipH20 (by kernel_rfl) (by kernel_rfl) (by kernel_rfl) (fun _ _ _ h => h) hHeld (by rfl) ?_
                    try simp only [Act.put, List.setIfInBounds_toArray, List.set_cons_zero, List.set_cons_succ]
                    refine skipH21 (by kernel_rfl) (by kernel_rfl) (by kernel_rfl) (fun _ _ _ h => h) hHeld (by rfl) ?_
                    try simp only [Act.put, List.setIfInBounds_toArray, List.set_cons_zero, List.set_cons_succ]
                    refine skipH22 (by kernel_rfl) (by kernel_rfl) (by kernel_rfl) (fun _ _ _ h => h) hHeld (by rfl) ?_
                    try simp only [Act.put, List.setIfInBounds_toArray, List.set_cons_zero, List.set_cons_succ]
                    refine skipH23 (by kernel_rfl) (by kernel_rfl) (by kernel_rfl) (fun _ _ _ h => h) hHeld (by rfl) ?_
                    try simp only [Act.put, List.setIfInBounds_toArray, List.set_cons_zero, List.set_cons_succ]
                    refine skipH24 (by kernel_rfl) (by kernel_rfl) (by kernel_rfl) (fun _ _ _ h => h) hHeld (by rfl) ?_
                    try simp only [Act.put, List.setIfInBounds_toArray, List.set_cons_zero, List.set_cons_succ]
                    refine skipH25 (by kernel_rfl) (by kernel_rfl) (by kernel_rfl) (fun _ _ _ h => h) hHeld (by rfl) ?_
                    try simp only [Act.put, List.setIfInBounds_toArray, List.set_cons_zero, List.set_cons_succ]
                    refine skipH26 (by kernel_rfl) (by kernel_rfl) (by kernel_rfl) (fun _ _ _ h => h) hHeld (by rfl) ?_
                    try simp only [Act.put, List.setIfInBounds_toArray, List.set_cons_zero, List.set_cons_succ]
                    refine takeH27 (v := ?_) (by kernel_rfl) (by kernel_rfl) (by kernel_rfl) (fun _ _ _ h => h) hHeld (by rfl) ?_ ?_
                    rotate_left; · (intro w hSw; (try dsimp only at hSw); go_simp; try with_reducible rfl)
                    try simp only [Act.put, List.setIfInBounds_toArray, List.set_cons_zero, List.set_cons_succ]
                    refine wpAnyH_done (by kernel_rfl) ?_ _
                    go_wp2
                    go_ret
                    exact ⟨ret_b E.out.symm, (below_then hbt2 hwr.size hwr).mono hB⟩
                  | true =>
                    have hth2 := of_decide_eq_true hth
                    have HTH := Lib.hid hth
                    clear hth
                    by_cases hj1 : j = 0
                    · subst hj1
                      have HAT := Lib.hid (show lasAt o n LA 0 from ⟨by rw [HO.out]; exact hth2, fun h => absurd h (by omega)⟩)
                      go_wp2_with fail
                      refine wp_region_held_drew (S := fun w' => w'.cell? ⟨w.heap.size, 0, none⟩ = some (.slice A0 n0 c0) ∧ w'.cell? ⟨w.heap.size, 1, none⟩ = some (.slice A1 n1 c1) ∧ w'.cell? ⟨b9, o9, none⟩ = some (.int .i64 (gi LA 0))) (by kernel_rfl) (⟨g0, g1, hcj⟩) (fun hHeld => ?_)
                      refine takeH0 (v := ?_) (by kernel_rfl) (by kernel_rfl) (by kernel_rfl) (fun _ _ _ h => h) hHeld (by rfl) ?_ ?_
                      rotate_left; · (intro w hSw; (try dsimp only at hSw); go_simp; try with_reducible rfl)
                      try simp only [Act.put, List.setIfInBounds_toArray, List.set_cons_zero, List.set_cons_succ]
                      refine takeH1 (v := ?_) (by kernel_rfl) (by kernel_rfl) (by kernel_rfl) (fun _ _ _ h => h) hHeld (by rfl) ?_ ?_
                      rotate_left; · (intro w hSw; (try dsimp only at hSw); go_simp; try with_reducible rfl)
                      try simp only [Act.put, List.setIfInBounds_toArray, List.set_cons_zero, List.set_cons_succ]
                      refine takeH2 (v := ?_) (by kernel_rfl) (by kernel_rfl) (by kernel_rfl) (fun _ _ _ h => h) hHeld (by rfl) ?_ ?_
                      rotate_left; · (intro w hSw; (try dsimp only at hSw); go_simp; try with_reducible rfl)
                      try simp only [Act.put, List.setIfInBounds_toArray, List.set_cons_zero, List.set_cons_succ]
                      refine takeH3 (v := ?_) (by kernel_rfl) (by kernel_rfl) (by kernel_rfl) (fun _ _ _ h => h) hHeld (by rfl) ?_ ?_
                      rotate_left; · (intro w hSw; (try dsimp only at hSw); go_simp; try with_reducible rfl)
                      try simp only [Act.put, List.setIfInBounds_toArray, List.set_cons_zero, List.set_cons_succ]
                      refine takeH4 (v := ?_) (by kernel_rfl) (by kernel_rfl) (by kernel_rfl) (fun _ _ _ h => h) hHeld (by rfl) ?_ ?_
                      rotate_left; · (intro w hSw; (try dsimp only at hSw); go_simp; try with_reducible rfl)
                      try simp only [Act.put, List.setIfInBounds_toArray, List.set_cons_zero, List.set_cons_succ]
                      refine callH5 (by kernel_rfl) (fun K hK => ?_)
                      go_simp
                      go_at_call 140
                      refine (l1ThereB _ _ _ _ _ _ _ _ _ (Nat.le_refl _) (by omega)).mono ?_; rintro e wt ⟨rfl, hbt⟩
                      rw [HTH.out]
                      have hbt2 := below_then hbt (Nat.le_refl _) (Below.drew (Below.refl wr.heap.size wr))
                      have bxt := bxr.below hbt2 bxr.lt
                      have hct := keeps_below hbt2 _ _ hcj
                      go_wp2_with fail
                      refine hK.out _ _ (⟨bxt.d0, bxt.d1, hct⟩) (fun hHeld => ?_)
                      clear hK K
                      try simp only [Act.put, List.setIfInBounds_toArray, List.set_cons_zero, List.set_cons_succ]
                      refine takeH6 (v := ?_) (by kernel_rfl) (by kernel_rfl) (by kernel_rfl) (fun _ _ _ h => h) hHeld (by rfl) ?_ ?_
                      rotate_left; · (intro w hSw; (try dsimp only at hSw); go_simp; try with_reducible rfl)
                      try simp only [Act.put, List.setIfInBounds_toArray, List.set_cons_zero, List.set_cons_succ]
                      refine takeH7 (v := ?_) (by kernel_rfl) (by kernel_rfl) (by kernel_rfl) (fun _ _ _ h => h) hHeld (by rfl) ?_ ?_
                      rotate_left; · (intro w hSw; (try dsimp only at hSw); go_simp; try with_reducible rfl)
                      try simp only [Act.put, List.setIfInBounds_toArray, List.set_cons_zero, List.set_cons_succ]
                      refine takeH8 (v := ?_) (by kernel_rfl) (by kernel_rfl) (by kernel_rfl) (fun _ _ _ h => h) hHeld (by rfl) ?_ ?_
                      rotate_left; · (intro w hSw; (try dsimp only at hSw); go_simp; try with_reducible rfl)
                      try simp only [Act.put, List.setIfInBounds_toArray, List.set_cons_zero, List.set_cons_succ]
                      refine takeH9 (v := ?_) (by kernel_rfl) (by kernel_rfl) (by kernel_rfl) (fun _ _ _ h => h) hHeld (by rfl) ?_ ?_
                      rotate_left; · (intro w hSw; (try dsimp only at hSw); go_simp; try with_reducible rfl)
                      try simp only [Act.put, List.setIfInBounds_toArray, List.set_cons_zero, List.set_cons_succ]
                      refine takeH10 (v := ?_) (by kernel_rfl) (by kernel_rfl) (by kernel_rfl) (fun _ _ _ h => h) hHeld (by rfl) ?_ ?_
                      rotate_left; · (intro w hSw; (try dsimp only at hSw); go_simp; try with_reducible rfl)
                      try simp only [Act.put, List.setIfInBounds_toArray, List.set_cons_zero, List.set_cons_succ]
                      refine skipH11 (by kernel_rfl) (by kernel_rfl) (by kernel_rfl) (fun _ _ _ h => h) hHeld (by rfl) ?_
                      try simp only [Act.put, List.setIfInBounds_toArray, List.set_cons_zero, List.set_cons_succ]
                      refine skipH12 (by kernel_rfl) (by kernel_rfl) (by kernel_rfl) (fun _ _ _ h => h) hHeld (by rfl) ?_
                      try simp only [Act.put, List.setIfInBounds_toArray, List.set_cons_zero, List.set_cons_succ]
                      refine skipH13 (by kernel_rfl) (by kernel_rfl) (by kernel_rfl) (fun _ _ _ h => h) hHeld (by rfl) ?_
                      try simp only [Act.put, List.setIfInBounds_toArray, List.set_cons_zero, List.set_cons_succ]
                      refine skipH14 (by kernel_rfl) (by kernel_rfl) (by kernel_rfl) (fun _ _ _ h => h) hHeld (by rfl) ?_
                      try simp only [Act.put, List.setIfInBounds_toArray, List.set_cons_zero, List.set_cons_succ]
                      refine skipH15 (by kernel_rfl) (by kernel_rfl) (by kernel_rfl) (fun _ _ _ h => h) hHeld (by rfl) ?_
                      try simp only [Act.put, List.setIfInBounds_toArray, List.set_cons_zero, List.set_cons_succ]
                      refine skipH16 (by kernel_rfl) (by kernel_rfl) (by kernel_rfl) (fun _ _ _ h => h) hHeld (by rfl) ?_
                      try simp only [Act.put, List.setIfInBounds_toArray, List.set_cons_zero, List.set_cons_succ]
                      refine skipH17 (by kernel_rfl) (by kernel_rfl) (by kernel_rfl) (fun _ _ _ h => h) hHeld (by rfl) ?_
                      try simp only [Act.put, List.setIfInBounds_toArray, List.set_cons_zero, List.set_cons_succ]
                      refine skipH18 (by kernel_rfl) (by kernel_rfl) (by kernel_rfl) (fun _ _ _ h => h) hHeld (by rfl) ?_
                      try simp only [Act.put, List.setIfInBounds_toArray, List.set_cons_zero, List.set_cons_succ]
                      refine skipH19 (by kernel_rfl) (by kernel_rfl) (by kernel_rfl) (fun _ _ _ h => h) hHeld (by rfl) ?_
                      try simp only [Act.put, List.setIfInBounds_toArray, List.set_cons_zero, List.set_cons_succ]
                      refine skipH20 (by kernel_rfl) (by kernel_rfl) (by kernel_rfl) (fun _ _ _ h => h) hHeld (by rfl) ?_
                      try simp only [Act.put, List.setIfInBounds_toArray, List.set_cons_zero, List.set_cons_succ]
                      refine skipH21 (by kernel_rfl) (by kernel_rfl) (by kernel_rfl) (fun _ _ _ h => h) hHeld (by rfl) ?_
                      try simp only [Act.put, List.setIfInBounds_toArray, List.set_cons_zero, List.set_cons_succ]
                      refine skipH22 (by kernel_rfl) (by kernel_rfl) (by kernel_rfl) (fun _ _ _ h => h) hHeld (by rfl) ?_
                      try simp only [Act.put, List.setIfInBounds_toArray, List.set_cons_zero, List.set_cons_succ]
                      refine skipH23 (by kernel_rfl) (by kernel_rfl) (by kernel_rfl) (fun _ _ _ h => h) hHeld (by rfl) ?_
                      try simp only [Act.put, List.setIfInBounds_toArray, List.set_cons_zero, List.set_cons_succ]
                      refine skipH24 (by kernel_rfl) (by kernel_rfl) (by kernel_rfl) (fun _ _ _ h => h) hHeld (by rfl) ?_
                      try simp only [Act.put, List.setIfInBounds_toArray, List.set_cons_zero, List.set_cons_succ]
                      refine skipH25 (by kernel_rfl) (by kernel_rfl) (by kernel_rfl) (fun _ _ _ h => h) hHeld (by rfl) ?_
                      try simp only [Act.put, List.setIfInBounds_toArray, List.set_cons_zero, List.set_cons_succ]
                      refine takeH26 (v := ?_) (by kernel_rfl) (by kernel_rfl) (by kernel_rfl) (fun _ _ _ h => h) hHeld (by rfl) ?_ ?_
                      rotate_left; · (intro w hSw; (try dsimp only at hSw); go_simp; try with_reducible rfl)
                      try simp only [Act.put, List.setIfInBounds_toArray, List.set_cons_zero, List.set_cons_succ]
                      refine takeH27 (v := ?_) (by kernel_rfl) (by kernel_rfl) (by kernel_rfl) (fun _ _ _ h => h) hHeld (by rfl) ?_ ?_
                      rotate_left; · (intro w hSw; (try dsimp only at hSw); go_simp; try with_reducible rfl)
                      try simp only [Act.put, List.setIfInBounds_toArray, List.set_cons_zero, List.set_cons_succ]
                      refine wpAnyH_done (by kernel_rfl) ?_ _
                      go_wp2
                      go_roundw
                      case rel => exact ⟨0 + 1, by omega, by go_num, all_succ HALL.out HAT.out, below_then hbt2 hbr.size hbr⟩
                      case measure => simp [intOf]; omega
                    · have hprev := HALL.out (j - 1) (by omega)
                      have hp1 := hprev.1
                      rw [HO.out] at hp1
                      obtain ⟨u, hu⟩ := Int.eq_ofNat_of_zero_le hp1.1
                      have hun : u < n1 := by have := H01.out; omega
                      have HU := Lib.hid hu
                      obtain ⟨b9', o9', e9, hcp⟩ := hr9.at_ (i := j - 1) (by omega)
                      injection e9 with e9
                      injection e9 with e91 e92
                      subst e91; subst e92
                      have hcq := keeps_below hbr _ _ hcp
                      rw [hu] at hcq
                      obtain ⟨bn, on, An, nn, cn, rfl, hcN, rn⟩ := hb.at_ hun
                      have hcn := keeps_below hwr _ _ hcN
                      have hrow := rn.keep (keeps_below hwr)
                      have e3 : ((j : Int) - 1).toNat = j - 1 := by omega
                      have hjp : (0 : Int) < (j : Int) := by omega
                      have hjn : 0 < j := by omega
                      have hjm : (j : Int) - 1 < (LL : Int) := by omega
                      have hjq : (1 : Int) ≤ (j : Int) := by omega
                      have hui : (u : Int) < (n1 : Int) := by omega
                      have hu0 : (0 : Int) ≤ (u : Int) := by omega
                      clear hu hprev hp1
                      cases hh : hasL (gl n u) (gi LA j) with
                      | false =>
                        have E := Lib.hid (HX.out j hlt (fun h => by have := h.2 (by omega); rw [HU.out, Int.toNat_natCast, hh] at this; cases this))
                        have HH := Lib.hid hh
                        clear hh
                        have ew : IntKind.i64.wrap ((j : Int) - 1) = (j : Int) - 1 := IntWalk.i64_in _ (by omega)
                        go_wp2_with fail
                        refine wp_region_held_drew (S := fun w' => w'.cell? ⟨w.heap.size, 0, none⟩ = some (.slice A0 n0 c0) ∧ w'.cell? ⟨w.heap.size, 1, none⟩ = some (.slice (some ⟨bn, on, none⟩) n1 c1) ∧ w'.cell? ⟨b9, o9 + j, none⟩ = some (.int .i64 (gi LA j)) ∧ w'.cell? ⟨b9, o9 + (j - 1), none⟩ = some (.int .i64 (u : Int)) ∧ w'.cell? ⟨bn, on + u, none⟩ = some (.slice An nn cn)) (by kernel_rfl) (⟨g0, g1, hcj, hcq, hcn⟩) (fun hHeld => ?_)
                        refine takeH0 (v := ?_) (by kernel_rfl) (by kernel_rfl) (by kernel_rfl) (fun _ _ _ h => h) hHeld (by rfl) ?_ ?_
                        rotate_left; · (intro w hSw; (try dsimp only at hSw); go_simp; try with_reducible rfl)
                        try simp only [Act.put, List.setIfInBounds_toArray, List.set_cons_zero, List.set_cons_succ]
                        refine takeH1 (v := ?_) (by kernel_rfl) (by kernel_rfl) (by kernel_rfl) (fun _ _ _ h => h) hHeld (by rfl) ?_ ?_
                        rotate_left; · (intro w hSw; (try dsimp only at hSw); go_simp; try with_reducible rfl)
                        try simp only [Act.put, List.setIfInBounds_toArray, List.set_cons_zero, List.set_cons_succ]
                        refine takeH2 (v := ?_) (by kernel_rfl) (by kernel_rfl) (by kernel_rfl) (fun _ _ _ h => h) hHeld (by rfl) ?_ ?_
                        rotate_left; · (intro w hSw; (try dsimp only at hSw); go_simp; try with_reducible rfl)
                        try simp only [Act.put, List.setIfInBounds_toArray, List.set_cons_zero, List.set_cons_succ]
                        refine takeH3 (v := ?_) (by kernel_rfl) (by kernel_rfl) (by kernel_rfl) (fun _ _ _ h => h) hHeld (by rfl) ?_ ?_
                        rotate_left; · (intro w hSw; (try dsimp only at hSw); go_simp; try with_reducible rfl)
                        try simp only [Act.put, List.setIfInBounds_toArray, List.set_cons_zero, List.set_cons_succ]
                        refine takeH4 (v := ?_) (by kernel_rfl) (by kernel_rfl) (by kernel_rfl) (fun _ _ _ h => h) hHeld (by rfl) ?_ ?_
                        rotate_left; · (intro w hSw; (try dsimp only at hSw); go_simp; try with_reducible rfl)
                        try simp only [Act.put, List.setIfInBounds_toArray, List.set_cons_zero, List.set_cons_succ]
                        refine callH5 (by kernel_rfl) (fun K hK => ?_)
                        go_simp
                        go_at_call 140
                        refine (l1ThereB _ _ _ _ _ _ _ _ _ (Nat.le_refl _) (by omega)).mono ?_; rintro e wt ⟨rfl, hbt⟩
                        rw [HTH.out]
                        have hbt2 := below_then hbt (Nat.le_refl _) (Below.drew (Below.refl wr.heap.size wr))
                        have bxt := bxr.below hbt2 bxr.lt
                        have hct := keeps_below hbt2 _ _ hcj
                        have hcqt := keeps_below hbt2 _ _ hcq
                        have hcnt := keeps_below hbt2 _ _ hcn
                        have hrt := hrow.keep (keeps_below hbt2)
                        go_wp2_with fail
                        refine hK.out _ _ (⟨bxt.d0, bxt.d1, hct, hcqt, hcnt⟩) (fun hHeld => ?_)
                        clear hK K
                        try simp only [Act.put, List.setIfInBounds_toArray, List.set_cons_zero, List.set_cons_succ]
                        refine takeH6 (v := ?_) (by kernel_rfl) (by kernel_rfl) (by kernel_rfl) (fun _ _ _ h => h) hHeld (by rfl) ?_ ?_
                        rotate_left; · (intro w hSw; (try dsimp only at hSw); go_simp; try with_reducible rfl)
                        try simp only [Act.put, List.setIfInBounds_toArray, List.set_cons_zero, List.set_cons_succ]
                        refine takeH7 (v := ?_) (by kernel_rfl) (by kernel_rfl) (by kernel_rfl) (fun _ _ _ h => h) hHeld (by rfl) ?_ ?_
                        rotate_left; · (intro w hSw; (try dsimp only at hSw); go_simp; try with_reducible rfl)
                        try simp only [Act.put, List.setIfInBounds_toArray, List.set_cons_zero, List.set_cons_succ]
                        refine takeH8 (v := ?_) (by kernel_rfl) (by kernel_rfl) (by kernel_rfl) (fun _ _ _ h => h) hHeld (by rfl) ?_ ?_
                        rotate_left; · (intro w hSw; (try dsimp only at hSw); go_simp; try with_reducible rfl)
                        try simp only [Act.put, List.setIfInBounds_toArray, List.set_cons_zero, List.set_cons_succ]
                        refine takeH9 (v := ?_) (by kernel_rfl) (by kernel_rfl) (by kernel_rfl) (fun _ _ _ h => h) hHeld (by rfl) ?_ ?_
                        rotate_left; · (intro w hSw; (try dsimp only at hSw); go_simp; try with_reducible rfl)
                        try simp only [Act.put, List.setIfInBounds_toArray, List.set_cons_zero, List.set_cons_succ]
                        refine takeH10 (v := ?_) (by kernel_rfl) (by kernel_rfl) (by kernel_rfl) (fun _ _ _ h => h) hHeld (by rfl) ?_ ?_
                        rotate_left; · (intro w hSw; (try dsimp only at hSw); go_simp; try with_reducible rfl)
                        try simp only [Act.put, List.setIfInBounds_toArray, List.set_cons_zero, List.set_cons_succ]
                        refine takeH11 (v := ?_) (by kernel_rfl) (by kernel_rfl) (by kernel_rfl) (fun _ _ _ h => h) hHeld (by rfl) ?_ ?_
                        rotate_left; · (intro w hSw; (try dsimp only at hSw); go_simp; try with_reducible rfl)
                        try simp only [Act.put, List.setIfInBounds_toArray, List.set_cons_zero, List.set_cons_succ]
                        refine takeH12 (v := ?_) (by kernel_rfl) (by kernel_rfl) (by kernel_rfl) (fun _ _ _ h => h) hHeld (by rfl) ?_ ?_
                        rotate_left; · (intro w hSw; (try dsimp only at hSw); go_simp; try with_reducible rfl)
                        try simp only [Act.put, List.setIfInBounds_toArray, List.set_cons_zero, List.set_cons_succ]
                        refine takeH13 (v := ?_) (by kernel_rfl) (by kernel_rfl) (by kernel_rfl) (fun _ _ _ h => h) hHeld (by rfl) ?_ ?_
                        rotate_left; · (intro w hSw; (try dsimp only at hSw); go_simp; try with_reducible rfl)
                        try simp only [Act.put, List.setIfInBounds_toArray, List.set_cons_zero, List.set_cons_succ]
                        refine takeH14 (v := ?_) (by kernel_rfl) (by kernel_rfl) (by kernel_rfl) (fun _ _ _ h => h) hHeld (by rfl) ?_ ?_
                        rotate_left; · (intro w hSw; (try dsimp only at hSw); go_simp; try with_reducible rfl)
                        try simp only [Act.put, List.setIfInBounds_toArray, List.set_cons_zero, List.set_cons_succ]
                        refine takeH15 (v := ?_) (by kernel_rfl) (by kernel_rfl) (by kernel_rfl) (fun _ _ _ h => h) hHeld (by rfl) ?_ ?_
                        rotate_left; · (intro w hSw; (try dsimp only at hSw); go_simp; try with_reducible rfl)
                        try simp only [Act.put, List.setIfInBounds_toArray, List.set_cons_zero, List.set_cons_succ]
                        refine takeH16 (v := ?_) (by kernel_rfl) (by kernel_rfl) (by kernel_rfl) (fun _ _ _ h => h) hHeld (by rfl) ?_ ?_
                        rotate_left; · (intro w hSw; (try dsimp only at hSw); go_simp; try with_reducible rfl)
                        try simp only [Act.put, List.setIfInBounds_toArray, List.set_cons_zero, List.set_cons_succ]
                        refine takeH17 (v := ?_) (by kernel_rfl) (by kernel_rfl) (by kernel_rfl) (fun _ _ _ h => h) hHeld (by rfl) ?_ ?_
                        rotate_left; · (intro w hSw; (try dsimp only at hSw); go_simp; try with_reducible rfl)
                        try simp only [Act.put, List.setIfInBounds_toArray, List.set_cons_zero, List.set_cons_succ]
                        refine takeH18 (v := ?_) (by kernel_rfl) (by kernel_rfl) (by kernel_rfl) (fun _ _ _ h => h) hHeld (by rfl) ?_ ?_
                        rotate_left; · (intro w hSw; (try dsimp only at hSw); go_simp; try with_reducible rfl)
                        try simp only [Act.put, List.setIfInBounds_toArray, List.set_cons_zero, List.set_cons_succ]
                        refine takeH19 (v := ?_) (by kernel_rfl) (by kernel_rfl) (by kernel_rfl) (fun _ _ _ h => h) hHeld (by rfl) ?_ ?_
                        rotate_left; · (intro w hSw; (try dsimp only at hSw); go_simp; try with_reducible rfl)
                        try simp only [Act.put, List.setIfInBounds_toArray, List.set_cons_zero, List.set_cons_succ]
                        refine takeH20 (v := ?_) (by kernel_rfl) (by kernel_rfl) (by kernel_rfl) (fun _ _ _ h => h) hHeld (by rfl) ?_ ?_
                        rotate_left; · (intro w hSw; (try dsimp only at hSw); go_simp; try with_reducible rfl)
                        try simp only [Act.put, List.setIfInBounds_toArray, List.set_cons_zero, List.set_cons_succ]
                        refine takeH21 (v := ?_) (by kernel_rfl) (by kernel_rfl) (by kernel_rfl) (fun _ _ _ h => h) hHeld (by rfl) ?_ ?_
                        rotate_left; · (intro w hSw; (try dsimp only at hSw); go_simp; try with_reducible rfl)
                        try simp only [Act.put, List.setIfInBounds_toArray, List.set_cons_zero, List.set_cons_succ]
                        refine takeH22 (v := ?_) (by kernel_rfl) (by kernel_rfl) (by kernel_rfl) (fun _ _ _ h => h) hHeld (by rfl) ?_ ?_
                        rotate_left; · (intro w hSw; (try dsimp only at hSw); go_simp; try with_reducible rfl)
                        try simp only [Act.put, List.setIfInBounds_toArray, List.set_cons_zero, List.set_cons_succ]
                        refine takeH23 (v := ?_) (by kernel_rfl) (by kernel_rfl) (by kernel_rfl) (fun _ _ _ h => h) hHeld (by rfl) ?_ ?_
                        rotate_left; · (intro w hSw; (try dsimp only at hSw); go_simp; try with_reducible rfl)
                        try simp only [Act.put, List.setIfInBounds_toArray, List.set_cons_zero, List.set_cons_succ]
                        refine callH24 (by kernel_rfl) (fun K hK => ?_)
                        go_simp
                        go_at_call 141
                        refine (l1Has _ _ _ _ _ _ hrt).mono ?_; rintro e wh ⟨rfl, qh⟩
                        rw [HH.out]
                        have hbh := below_qt qh hbt2
                        have bxh := bxr.below hbh bxr.lt
                        have h1 := keeps_below hbh _ _ hcj
                        have h2 := keeps_below hbh _ _ hcq
                        have h3 := keeps_below hbh _ _ hcn
                        go_wp2_with fail
                        refine hK.out _ _ (⟨bxh.d0, bxh.d1, h1, h2, h3⟩) (fun hHeld => ?_)
                        clear hK K
                        try simp only [Act.put, List.setIfInBounds_toArray, List.set_cons_zero, List.set_cons_succ]
                        refine takeH25 (v := ?_) (by kernel_rfl) (by kernel_rfl) (by kernel_rfl) (fun _ _ _ h => h) hHeld (by rfl) ?_ ?_
                        rotate_left; · (intro w hSw; (try dsimp only at hSw); go_simp; try with_reducible rfl)
                        try simp only [Act.put, List.setIfInBounds_toArray, List.set_cons_zero, List.set_cons_succ]
                        refine takeH26 (v := ?_) (by kernel_rfl) (by kernel_rfl) (by kernel_rfl) (fun _ _ _ h => h) hHeld (by rfl) ?_ ?_
                        rotate_left; · (intro w hSw; (try dsimp only at hSw); go_simp; try with_reducible rfl)
                        try simp only [Act.put, List.setIfInBounds_toArray, List.set_cons_zero, List.set_cons_succ]
                        refine takeH27 (v := ?_) (by kernel_rfl) (by kernel_rfl) (by kernel_rfl) (fun _ _ _ h => h) hHeld (by rfl) ?_ ?_
                        rotate_left; · (intro w hSw; (try dsimp only at hSw); go_simp; try with_reducible rfl)
                        try simp only [Act.put, List.setIfInBounds_toArray, List.set_cons_zero, List.set_cons_succ]
                        refine wpAnyH_done (by kernel_rfl) ?_ _
                        clear ew
                        go_wp2
                        go_ret
                        exact ⟨ret_b E.out.symm, (below_then hbh hwr.size hwr).mono hB⟩
                      | true =>
                        have HAT := Lib.hid (show lasAt o n LA j from ⟨by rw [HO.out]; exact hth2, fun _ => by rw [HU.out, Int.toNat_natCast]; exact hh⟩)
                        have HH := Lib.hid hh
                        clear hh
                        have ew : IntKind.i64.wrap ((j : Int) - 1) = (j : Int) - 1 := IntWalk.i64_in _ (by omega)
                        go_wp2_with fail
                        refine wp_region_held_drew (S := fun w' => w'.cell? ⟨w.heap.size, 0, none⟩ = some (.slice A0 n0 c0) ∧ w'.cell? ⟨w.heap.size, 1, none⟩ = some (.slice (some ⟨bn, on, none⟩) n1 c1) ∧ w'.cell? ⟨b9, o9 + j, none⟩ = some (.int .i64 (gi LA j)) ∧ w'.cell? ⟨b9, o9 + (j - 1), none⟩ = some (.int .i64 (u : Int)) ∧ w'.cell? ⟨bn, on + u, none⟩ = some (.slice An nn cn)) (by kernel_rfl) (⟨g0, g1, hcj, hcq, hcn⟩) (fun hHeld => ?_)
                        refine takeH0 (v := ?_) (by kernel_rfl) (by kernel_rfl) (by kernel_rfl) (fun _ _ _ h => h) hHeld (by rfl) ?_ ?_
                        rotate_left; · (intro w hSw; (try dsimp only at hSw); go_simp; try with_reducible rfl)
                        try simp only [Act.put, List.setIfInBounds_toArray, List.set_cons_zero, List.set_cons_succ]
                        refine takeH1 (v := ?_) (by kernel_rfl) (by kernel_rfl) (by kernel_rfl) (fun _ _ _ h => h) hHeld (by rfl) ?_ ?_
                        rotate_left; · (intro w hSw; (try dsimp only at hSw); go_simp; try with_reducible rfl)
                        try simp only [Act.put, List.setIfInBounds_toArray, List.set_cons_zero, List.set_cons_succ]
                        refine takeH2 (v := ?_) (by kernel_rfl) (by kernel_rfl) (by kernel_rfl) (fun _ _ _ h => h) hHeld (by rfl) ?_ ?_
                        rotate_left; · (intro w hSw; (try dsimp only at hSw); go_simp; try with_reducible rfl)
                        try simp only [Act.put, List.setIfInBounds_toArray, List.set_cons_zero, List.set_cons_succ]
                        refine takeH3 (v := ?_) (by kernel_rfl) (by kernel_rfl) (by kernel_rfl) (fun _ _ _ h => h) hHeld (by rfl) ?_ ?_
                        rotate_left; · (intro w hSw; (try dsimp only at hSw); go_simp; try with_reducible rfl)
                        try simp only [Act.put, List.setIfInBounds_toArray, List.set_cons_zero, List.set_cons_succ]
                        refine takeH4 (v := ?_) (by kernel_rfl) (by kernel_rfl) (by kernel_rfl) (fun _ _ _ h => h) hHeld (by rfl) ?_ ?_
                        rotate_left; · (intro w hSw; (try dsimp only at hSw); go_simp; try with_reducible rfl)
                        try simp only [Act.put, List.setIfInBounds_toArray, List.set_cons_zero, List.set_cons_succ]
                        refine callH5 (by kernel_rfl) (fun K hK => ?_)
                        go_simp
                        go_at_call 140
                        refine (l1ThereB _ _ _ _ _ _ _ _ _ (Nat.le_refl _) (by omega)).mono ?_; rintro e wt ⟨rfl, hbt⟩
                        rw [HTH.out]
                        have hbt2 := below_then hbt (Nat.le_refl _) (Below.drew (Below.refl wr.heap.size wr))
                        have bxt := bxr.below hbt2 bxr.lt
                        have hct := keeps_below hbt2 _ _ hcj
                        have hcqt := keeps_below hbt2 _ _ hcq
                        have hcnt := keeps_below hbt2 _ _ hcn
                        have hrt := hrow.keep (keeps_below hbt2)
                        go_wp2_with fail
                        refine hK.out _ _ (⟨bxt.d0, bxt.d1, hct, hcqt, hcnt⟩) (fun hHeld => ?_)
                        clear hK K
                        try simp only [Act.put, List.setIfInBounds_toArray, List.set_cons_zero, List.set_cons_succ]
                        refine takeH6 (v := ?_) (by kernel_rfl) (by kernel_rfl) (by kernel_rfl) (fun _ _ _ h => h) hHeld (by rfl) ?_ ?_
                        rotate_left; · (intro w hSw; (try dsimp only at hSw); go_simp; try with_reducible rfl)
                        try simp only [Act.put, List.setIfInBounds_toArray, List.set_cons_zero, List.set_cons_succ]
                        refine takeH7 (v := ?_) (by kernel_rfl) (by kernel_rfl) (by kernel_rfl) (fun _ _ _ h => h) hHeld (by rfl) ?_ ?_
                        rotate_left; · (intro w hSw; (try dsimp only at hSw); go_simp; try with_reducible rfl)
                        try simp only [Act.put, List.setIfInBounds_toArray, List.set_cons_zero, List.set_cons_succ]
                        refine takeH8 (v := ?_) (by kernel_rfl) (by kernel_rfl) (by kernel_rfl) (fun _ _ _ h => h) hHeld (by rfl) ?_ ?_
                        rotate_left; · (intro w hSw; (try dsimp only at hSw); go_simp; try with_reducible rfl)
                        try simp only [Act.put, List.setIfInBounds_toArray, List.set_cons_zero, List.set_cons_succ]
                        refine takeH9 (v := ?_) (by kernel_rfl) (by kernel_rfl) (by kernel_rfl) (fun _ _ _ h => h) hHeld (by rfl) ?_ ?_
                        rotate_left; · (intro w hSw; (try dsimp only at hSw); go_simp; try with_reducible rfl)
                        try simp only [Act.put, List.setIfInBounds_toArray, List.set_cons_zero, List.set_cons_succ]
                        refine takeH10 (v := ?_) (by kernel_rfl) (by kernel_rfl) (by kernel_rfl) (fun _ _ _ h => h) hHeld (by rfl) ?_ ?_
                        rotate_left; · (intro w hSw; (try dsimp only at hSw); go_simp; try with_reducible rfl)
                        try simp only [Act.put, List.setIfInBounds_toArray, List.set_cons_zero, List.set_cons_succ]
                        refine takeH11 (v := ?_) (by kernel_rfl) (by kernel_rfl) (by kernel_rfl) (fun _ _ _ h => h) hHeld (by rfl) ?_ ?_
                        rotate_left; · (intro w hSw; (try dsimp only at hSw); go_simp; try with_reducible rfl)
                        try simp only [Act.put, List.setIfInBounds_toArray, List.set_cons_zero, List.set_cons_succ]
                        refine takeH12 (v := ?_) (by kernel_rfl) (by kernel_rfl) (by kernel_rfl) (fun _ _ _ h => h) hHeld (by rfl) ?_ ?_
                        rotate_left; · (intro w hSw; (try dsimp only at hSw); go_simp; try with_reducible rfl)
                        try simp only [Act.put, List.setIfInBounds_toArray, List.set_cons_zero, List.set_cons_succ]
                        refine takeH13 (v := ?_) (by kernel_rfl) (by kernel_rfl) (by kernel_rfl) (fun _ _ _ h => h) hHeld (by rfl) ?_ ?_
                        rotate_left; · (intro w hSw; (try dsimp only at hSw); go_simp; try with_reducible rfl)
                        try simp only [Act.put, List.setIfInBounds_toArray, List.set_cons_zero, List.set_cons_succ]
                        refine takeH14 (v := ?_) (by kernel_rfl) (by kernel_rfl) (by kernel_rfl) (fun _ _ _ h => h) hHeld (by rfl) ?_ ?_
                        rotate_left; · (intro w hSw; (try dsimp only at hSw); go_simp; try with_reducible rfl)
                        try simp only [Act.put, List.setIfInBounds_toArray, List.set_cons_zero, List.set_cons_succ]
                        refine takeH15 (v := ?_) (by kernel_rfl) (by kernel_rfl) (by kernel_rfl) (fun _ _ _ h => h) hHeld (by rfl) ?_ ?_
                        rotate_left; · (intro w hSw; (try dsimp only at hSw); go_simp; try with_reducible rfl)
                        try simp only [Act.put, List.setIfInBounds_toArray, List.set_cons_zero, List.set_cons_succ]
                        refine takeH16 (v := ?_) (by kernel_rfl) (by kernel_rfl) (by kernel_rfl) (fun _ _ _ h => h) hHeld (by rfl) ?_ ?_
                        rotate_left; · (intro w hSw; (try dsimp only at hSw); go_simp; try with_reducible rfl)
                        try simp only [Act.put, List.setIfInBounds_toArray, List.set_cons_zero, List.set_cons_succ]
                        refine takeH17 (v := ?_) (by kernel_rfl) (by kernel_rfl) (by kernel_rfl) (fun _ _ _ h => h) hHeld (by rfl) ?_ ?_
                        rotate_left; · (intro w hSw; (try dsimp only at hSw); go_simp; try with_reducible rfl)
                        try simp only [Act.put, List.setIfInBounds_toArray, List.set_cons_zero, List.set_cons_succ]
                        refine takeH18 (v := ?_) (by kernel_rfl) (by kernel_rfl) (by kernel_rfl) (fun _ _ _ h => h) hHeld (by rfl) ?_ ?_
                        rotate_left; · (intro w hSw; (try dsimp only at hSw); go_simp; try with_reducible rfl)
                        try simp only [Act.put, List.setIfInBounds_toArray, List.set_cons_zero, List.set_cons_succ]
                        refine takeH19 (v := ?_) (by kernel_rfl) (by kernel_rfl) (by kernel_rfl) (fun _ _ _ h => h) hHeld (by rfl) ?_ ?_
                        rotate_left; · (intro w hSw; (try dsimp only at hSw); go_simp; try with_reducible rfl)
                        try simp only [Act.put, List.setIfInBounds_toArray, List.set_cons_zero, List.set_cons_succ]
                        refine takeH20 (v := ?_) (by kernel_rfl) (by kernel_rfl) (by kernel_rfl) (fun _ _ _ h => h) hHeld (by rfl) ?_ ?_
                        rotate_left; · (intro w hSw; (try dsimp only at hSw); go_simp; try with_reducible rfl)
                        try simp only [Act.put, List.setIfInBounds_toArray, List.set_cons_zero, List.set_cons_succ]
                        refine takeH21 (v := ?_) (by kernel_rfl) (by kernel_rfl) (by kernel_rfl) (fun _ _ _ h => h) hHeld (by rfl) ?_ ?_
                        rotate_left; · (intro w hSw; (try dsimp only at hSw); go_simp; try with_reducible rfl)
                        try simp only [Act.put, List.setIfInBounds_toArray, List.set_cons_zero, List.set_cons_succ]
                        refine takeH22 (v := ?_) (by kernel_rfl) (by kernel_rfl) (by kernel_rfl) (fun _ _ _ h => h) hHeld (by rfl) ?_ ?_
                        rotate_left; · (intro w hSw; (try dsimp only at hSw); go_simp; try with_reducible rfl)
                        try simp only [Act.put, List.setIfInBounds_toArray, List.set_cons_zero, List.set_cons_succ]
                        refine takeH23 (v := ?_) (by kernel_rfl) (by kernel_rfl) (by kernel_rfl) (fun _ _ _ h => h) hHeld (by rfl) ?_ ?_
                        rotate_left; · (intro w hSw; (try dsimp only at hSw); go_simp; try with_reducible rfl)
                        try simp only [Act.put, List.setIfInBounds_toArray, List.set_cons_zero, List.set_cons_succ]
                        refine callH24 (by kernel_rfl) (fun K hK => ?_)
                        go_simp
                        go_at_call 141
                        refine (l1Has _ _ _ _ _ _ hrt).mono ?_; rintro e wh ⟨rfl, qh⟩
                        rw [HH.out]
                        have hbh := below_qt qh hbt2
                        have bxh := bxr.below hbh bxr.lt
                        have h1 := keeps_below hbh _ _ hcj
                        have h2 := keeps_below hbh _ _ hcq
                        have h3 := keeps_below hbh _ _ hcn
                        go_wp2_with fail
                        refine hK.out _ _ (⟨bxh.d0, bxh.d1, h1, h2, h3⟩) (fun hHeld => ?_)
                        clear hK K
                        try simp only [Act.put, List.setIfInBounds_toArray, List.set_cons_zero, List.set_cons_succ]
                        refine takeH25 (v := ?_) (by kernel_rfl) (by kernel_rfl) (by kernel_rfl) (fun _ _ _ h => h) hHeld (by rfl) ?_ ?_
                        rotate_left; · (intro w hSw; (try dsimp only at hSw); go_simp; try with_reducible rfl)
                        try simp only [Act.put, List.setIfInBounds_toArray, List.set_cons_zero, List.set_cons_succ]
                        refine takeH26 (v := ?_) (by kernel_rfl) (by kernel_rfl) (by kernel_rfl) (fun _ _ _ h => h) hHeld (by rfl) ?_ ?_
                        rotate_left; · (intro w hSw; (try dsimp only at hSw); go_simp; try with_reducible rfl)
                        try simp only [Act.put, List.setIfInBounds_toArray, List.set_cons_zero, List.set_cons_succ]
                        refine takeH27 (v := ?_) (by kernel_rfl) (by kernel_rfl) (by kernel_rfl) (fun _ _ _ h => h) hHeld (by rfl) ?_ ?_
                        rotate_left; · (intro w hSw; (try dsimp only at hSw); go_simp; try with_reducible rfl)
                        try simp only [Act.put, List.setIfInBounds_toArray, List.set_cons_zero, List.set_cons_succ]
                        refine wpAnyH_done (by kernel_rfl) ?_ _
                        clear ew
                        go_wp2
                        go_roundw
                        case rel => exact ⟨j + 1, by omega, by go_num, all_succ HALL.out HAT.out, below_then hbh hbr.size hbr⟩
                        case measure => simp [intOf]; omega
                · obtain rfl : j = LL := by omega
                  have E := Lib.hid (HE.out HALL.out)
                  go_wp2
                  go_ret
                  exact ⟨ret_b E.out.symm, hwr.mono hB⟩
            · go_simp
              have hlbB : Below wc.heap.size wc (wc.alloc (.cells #[.int .i64 (gi z.2 0)] 2)) := below_alloc (Nat.le_refl _) (Below.refl _ _)
              have honeB : RI (wc.alloc (.cells #[.int .i64 (gi z.2 0)] 2)) (some ⟨wc.heap.size, 0, none⟩) 1 1 [gi z.2 0] := RI.one1 ((Box.new wc 2 #[.int .i64 (gi z.2 0)]).cell 0)
              have hwB : Below w.heap.size w (wc.alloc (.cells #[.int .i64 (gi z.2 0)] 2)) := below_then hlbB hwc.size hwc
              have blB := blc.below hlbB blc.lt
              have bxB := bxc.below hlbB bxc.lt
              have hoB := hoc.below hlbB
              have hcB := keeps_below hwB _ _ hcL
              have lB := hlbB.size
              refine hK.out _ _ (⟨blB.d0, blB.d1, hcB⟩) (fun hHeld => ?_)
              clear hK K
              try simp only [Act.put, List.setIfInBounds_toArray, List.set_cons_zero, List.set_cons_succ]
              refine callH5 (by kernel_rfl) (fun K hK => ?_)
              refine step_of_list (by rfl) (wp_appI (.tmp 30) (.tmp 32) (by rfl) (wc.alloc (.cells #[.int .i64 (gi z.2 0)] 2)) W.heap.size (.slice Ac z.1.length cc) z.1 (by rfl) hoB (some ⟨bL, oL, none⟩) k f z.2 (by rfl) (hl.keep (keeps_below hwB)) (by rw [HM.out]; omega) (by omega) (by omega) ?_)
              intro va wa hoa hba hca hata
              clear hata
              have hbL : Box wa wc.heap.size 2 #[.int .i64 (gi z.2 0)] := (Box.new wc 2 #[.int .i64 (gi z.2 0)]).chg hca (fun e => by have := (hoc.lt _ e).2; omega)
              clear hca
              have hwa : Below w.heap.size w wa := hwB.trans (hba.mono (by omega))
              have bla := blB.below hba (by omega)
              have hcaL := keeps_below hwa _ _ hcL
              have bxa := bxB.below hba (by omega)
              generalize hZA : z.1 ++ z.2 = ZA at *
              have HZA := Lib.hid hZA
              have hZl : ZA.length ≤ 512 := by rw [← hZA, List.length_append, HM.out, HK.out]; omega
              clear hZA
              obtain ⟨Aa, ca, rfl⟩ := hoa.form
              have la2 := hba.size
              refine hK.out _ _ (⟨bla.d0, bla.d1, hcaL⟩) (fun hHeld => ?_)
              clear hK K
              try simp only [Act.put, List.setIfInBounds_toArray, List.set_cons_zero, List.set_cons_succ]
              refine callH11 (by kernel_rfl) (fun K hK => ?_)
              refine step_of_list (by rfl) (wp_appI (.tmp 33) (.tmp 38) (by rfl) wa W.heap.size (.slice Aa ZA.length ca) ZA (by rfl) hoa (some ⟨wc.heap.size, 0, none⟩) 1 1 [gi z.2 0] (by rfl) (RI.one1 (hbL.cell 0)) (by omega) (by omega) (by omega) ?_)
              intro v9 w9 ho9 hb9 hc9 hat9
              clear hc9 hat9
              generalize hLA : ZA ++ [gi z.2 0] = LA at *
              have HLA := Lib.hid (show LA = lasAll z by rw [← hLA, ← HZA.out]; rfl)
              clear hLA
              obtain ⟨A9, c9, rfl⟩ := ho9.form
              have hw9 : Below w.heap.size w w9 := hwa.trans (hb9.mono (by omega))
              have bl9 := bla.below hb9 (by omega)
              have hc9L := keeps_below hw9 _ _ hcL
              have bx9 := bxa.below hb9 (by omega)
              refine hK.out _ _ (⟨bl9.d0, bl9.d1, hc9L⟩) (fun hHeld => ?_)
              clear hK K
              try simp only [Act.put, List.setIfInBounds_toArray, List.set_cons_zero, List.set_cons_succ]
              refine takeH12 (v := ?_) (by kernel_rfl) (by kernel_rfl) (by kernel_rfl) (fun _ _ _ h => h) hHeld (by rfl) ?_ ?_
              rotate_left; · (intro w hSw; (try dsimp only at hSw); go_simp; try with_reducible rfl)
              try simp only [Act.put, List.setIfInBounds_toArray, List.set_cons_zero, List.set_cons_succ]
              refine wpAnyH_done (by kernel_rfl) ?_ _
              have hl9 : LA.length = m + k + 1 := by rw [HLA.out]; exact HAL.out
              have HE := Lib.hid (show (∀ i, i < LA.length → lasAt o n LA i) → lasB o n z = true from fun h => by rw [EB.out]; exact lasE_yes HLN.out (by rw [← HLA.out]; exact h))
              have HX := Lib.hid (show ∀ i, i < LA.length → ¬ lasAt o n LA i → lasB o n z = false from fun i hi h => by rw [EB.out]; exact lasE_no (by rw [← HLA.out]; exact hi) (by rw [← HLA.out]; exact h))
              have hr9 := ho9.reads
              have HL9 := Lib.hid hl9
              have hl9a : LA.length ≤ 513 := by omega
              clear hl9 HLA
              generalize hLL : LA.length = LL at *
              have HLL := Lib.hid hLL
              clear hLL
              go_wp2
              go_loopw [6] (fun i wr => ∃ j : Nat, j ≤ LL ∧ i = .int .i64 j ∧ (∀ i, i < j → lasAt o n LA i) ∧ Below w9.heap.size w9 wr) (fun i _ => LL - (intOf i).toNat)
              case atStart => exact ⟨0, Nat.zero_le _, rfl, fun i h => absurd h (by omega), Below.refl _ _⟩
              case round =>
                obtain ⟨j, hj, rfl, hall, hbr⟩ := hrel
                have HALL := Lib.hid hall
                clear hall
                have bxr := bx9.below hbr bx9.lt
                have hwr := below_then hbr hw9.size hw9
                by_cases hlt : j < LL
                · obtain ⟨b9, o9, rfl, hc9⟩ := hr9.at_ hlt
                  have hcj := keeps_below hbr _ _ hc9
                  have g0 := bxr.d0; have g1 := bxr.d1
                  have hji : (j : Int) < (LL : Int) := by omega
                  have hj0 : (0 : Int) ≤ (j : Int) := by omega
                  cases hth : thereB (gi LA j) n0 with
                  | false =>
                    have E := Lib.hid (HX.out j hlt (fun h => by have := of_decide_eq_false hth; rw [← HO.out] at this; exact this h.1))
                    have HTH := Lib.hid hth
                    clear hth
                    go_wp2_with fail
                    refine wp_region_held_drew (S := fun w' => w'.cell? ⟨w.heap.size, 0, none⟩ = some (.slice A0 n0 c0) ∧ w'.cell? ⟨w.heap.size, 1, none⟩ = some (.slice A1 n1 c1) ∧ w'.cell? ⟨b9, o9 + j, none⟩ = some (.int .i64 (gi LA j))) (by kernel_rfl) (⟨g0, g1, hcj⟩) (fun hHeld => ?_)
                    refine takeH0 (v := ?_) (by kernel_rfl) (by kernel_rfl) (by kernel_rfl) (fun _ _ _ h => h) hHeld (by rfl) ?_ ?_
                    rotate_left; · (intro w hSw; (try dsimp only at hSw); go_simp; try with_reducible rfl)
                    try simp only [Act.put, List.setIfInBounds_toArray, List.set_cons_zero, List.set_cons_succ]
                    refine takeH1 (v := ?_) (by kernel_rfl) (by kernel_rfl) (by kernel_rfl) (fun _ _ _ h => h) hHeld (by rfl) ?_ ?_
                    rotate_left; · (intro w hSw; (try dsimp only at hSw); go_simp; try with_reducible rfl)
                    try simp only [Act.put, List.setIfInBounds_toArray, List.set_cons_zero, List.set_cons_succ]
                    refine takeH2 (v := ?_) (by kernel_rfl) (by kernel_rfl) (by kernel_rfl) (fun _ _ _ h => h) hHeld (by rfl) ?_ ?_
                    rotate_left; · (intro w hSw; (try dsimp only at hSw); go_simp; try with_reducible rfl)
                    try simp only [Act.put, List.setIfInBounds_toArray, List.set_cons_zero, List.set_cons_succ]
                    refine takeH3 (v := ?_) (by kernel_rfl) (by kernel_rfl) (by kernel_rfl) (fun _ _ _ h => h) hHeld (by rfl) ?_ ?_
                    rotate_left; · (intro w hSw; (try dsimp only at hSw); go_simp; try with_reducible rfl)
                    try simp only [Act.put, List.setIfInBounds_toArray, List.set_cons_zero, List.set_cons_succ]
                    refine takeH4 (v := ?_) (by kernel_rfl) (by kernel_rfl) (by kernel_rfl) (fun _ _ _ h => h) hHeld (by rfl) ?_ ?_
                    rotate_left; · (intro w hSw; (try dsimp only at hSw); go_simp; try with_reducible rfl)
                    try simp only [Act.put, List.setIfInBounds_toArray, List.set_cons_zero, List.set_cons_succ]
                    refine callH5 (by kernel_rfl) (fun K hK => ?_)
                    go_simp
                    go_at_call 140
                    refine (l1ThereB _ _ _ _ _ _ _ _ _ (Nat.le_refl _) (by omega)).mono ?_; rintro e wt ⟨rfl, hbt⟩
                    rw [HTH.out]
                    have hbt2 := below_then hbt (Nat.le_refl _) (Below.drew (Below.refl wr.heap.size wr))
                    have bxt := bxr.below hbt2 bxr.lt
                    have hct := keeps_below hbt2 _ _ hcj
                    go_wp2_with fail
                    refine hK.out _ _ (⟨bxt.d0, bxt.d1, hct⟩) (fun hHeld => ?_)
                    clear hK K
                    try simp only [Act.put, List.setIfInBounds_toArray, List.set_cons_zero, List.set_cons_succ]
                    refine takeH6 (v := ?_) (by kernel_rfl) (by kernel_rfl) (by kernel_rfl) (fun _ _ _ h => h) hHeld (by rfl) ?_ ?_
                    rotate_left; · (intro w hSw; (try dsimp only at hSw); go_simp; try with_reducible rfl)
                    try simp only [Act.put, List.setIfInBounds_toArray, List.set_cons_zero, List.set_cons_succ]
                    refine takeH7 (v := ?_) (by kernel_rfl) (by kernel_rfl) (by kernel_rfl) (fun _ _ _ h => h) hHeld (by rfl) ?_ ?_
                    rotate_left; · (intro w hSw; (try dsimp only at hSw); go_simp; try with_reducible rfl)
                    try simp only [Act.put, List.setIfInBounds_toArray, List.set_cons_zero, List.set_cons_succ]
                    refine skipH8 (by kernel_rfl) (by kernel_rfl) (by kernel_rfl) (fun _ _ _ h => h) hHeld (by rfl) ?_
                    try simp only [Act.put, List.setIfInBounds_toArray, List.set_cons_zero, List.set_cons_succ]
                    refine skipH9 (by kernel_rfl) (by kernel_rfl) (by kernel_rfl) (fun _ _ _ h => h) hHeld (by rfl) ?_
                    try simp only [Act.put, List.setIfInBounds_toArray, List.set_cons_zero, List.set_cons_succ]
                    refine skipH10 (by kernel_rfl) (by kernel_rfl) (by kernel_rfl) (fun _ _ _ h => h) hHeld (by rfl) ?_
                    try simp only [Act.put, List.setIfInBounds_toArray, List.set_cons_zero, List.set_cons_succ]
                    refine skipH11 (by kernel_rfl) (by kernel_rfl) (by kernel_rfl) (fun _ _ _ h => h) hHeld (by rfl) ?_
                    try simp only [Act.put, List.setIfInBounds_toArray, List.set_cons_zero, List.set_cons_succ]
                    refine skipH12 (by kernel_rfl) (by kernel_rfl) (by kernel_rfl) (fun _ _ _ h => h) hHeld (by rfl) ?_
                    try simp only [Act.put, List.setIfInBounds_toArray, List.set_cons_zero, List.set_cons_succ]
                    refine skipH13 (by kernel_rfl) (by kernel_rfl) (by kernel_rfl) (fun _ _ _ h => h) hHeld (by rfl) ?_
                    try simp only [Act.put, List.setIfInBounds_toArray, List.set_cons_zero, List.set_cons_succ]
                    refine skipH14 (by kernel_rfl) (by kernel_rfl) (by kernel_rfl) (fun _ _ _ h => h) hHeld (by rfl) ?_
                    try simp only [Act.put, List.setIfInBounds_toArray, List.set_cons_zero, List.set_cons_succ]
                    refine skipH15 (by kernel_rfl) (by kernel_rfl) (by kernel_rfl) (fun _ _ _ h => h) hHeld (by rfl) ?_
                    try simp only [Act.put, List.setIfInBounds_toArray, List.set_cons_zero, List.set_cons_succ]
                    refine skipH16 (by kernel_rfl) (by kernel_rfl) (by kernel_rfl) (fun _ _ _ h => h) hHeld (by rfl) ?_
                    try simp only [Act.put, List.setIfInBounds_toArray, List.set_cons_zero, List.set_cons_succ]
                    refine skipH17 (by kernel_rfl) (by kernel_rfl) (by kernel_rfl) (fun _ _ _ h => h) hHeld (by rfl) ?_
                    try simp only [Act.put, List.setIfInBounds_toArray, List.set_cons_zero, List.set_cons_succ]
                    refine skipH18 (by kernel_rfl) (by kernel_rfl) (by kernel_rfl) (fun _ _ _ h => h) hHeld (by rfl) ?_
                    try simp only [Act.put, List.setIfInBounds_toArray, List.set_cons_zero, List.set_cons_succ]
                    refine skipH19 (by kernel_rfl) (by kernel_rfl) (by kernel_rfl) (fun _ _ _ h => h) hHeld (by rfl) ?_
                    try simp only [Act.put, List.setIfInBounds_toArray, List.set_cons_zero, List.set_cons_succ]
                    refine skipH20 (by kernel_rfl) (by kernel_rfl) (by kernel_rfl) (fun _ _ _ h => h) hHeld (by rfl) ?_
                    try simp only [Act.put, List.setIfInBounds_toArray, List.set_cons_zero, List.set_cons_succ]
                    refine skipH21 (by kernel_rfl) (by kernel_rfl) (by kernel_rfl) (fun _ _ _ h => h) hHeld (by rfl) ?_
                    try simp only [Act.put, List.setIfInBounds_toArray, List.set_cons_zero, List.set_cons_succ]
                    refine skipH22 (by kernel_rfl) (by kernel_rfl) (by kernel_rfl) (fun _ _ _ h => h) hHeld (by rfl) ?_
                    try simp only [Act.put, List.setIfInBounds_toArray, List.set_cons_zero, List.set_cons_succ]
                    refine skipH23 (by kernel_rfl) (by kernel_rfl) (by kernel_rfl) (fun _ _ _ h => h) hHeld (by rfl) ?_
                    try simp only [Act.put, List.setIfInBounds_toArray, List.set_cons_zero, List.set_cons_succ]
                    refine skipH24 (by kernel_rfl) (by kernel_rfl) (by kernel_rfl) (fun _ _ _ h => h) hHeld (by rfl) ?_
                    try simp only [Act.put, List.setIfInBounds_toArray, List.set_cons_zero, List.set_cons_succ]
                    refine skipH25 (by kernel_rfl) (by kernel_rfl) (by kernel_rfl) (fun _ _ _ h => h) hHeld (by rfl) ?_
                    try simp only [Act.put, List.setIfInBounds_toArray, List.set_cons_zero, List.set_cons_succ]
                    refine skipH26 (by kernel_rfl) (by kernel_rfl) (by kernel_rfl) (fun _ _ _ h => h) hHeld (by rfl) ?_
                    try simp only [Act.put, List.setIfInBounds_toArray, List.set_cons_zero, List.set_cons_succ]
                    refine takeH27 (v := ?_) (by kernel_rfl) (by kernel_rfl) (by kernel_rfl) (fun _ _ _ h => h) hHeld (by rfl) ?_ ?_
                    rotate_left; · (intro w hSw; (try dsimp only at hSw); go_simp; try with_reducible rfl)
                    try simp only [Act.put, List.setIfInBounds_toArray, List.set_cons_zero, List.set_cons_succ]
                    refine wpAnyH_done (by kernel_rfl) ?_ _
                    go_wp2
                    go_ret
                    exact ⟨ret_b E.out.symm, (below_then hbt2 hwr.size hwr).mono hB⟩
                  | true =>
                    have hth2 := of_decide_eq_true hth
                    have HTH := Lib.hid hth
                    clear hth
                    by_cases hj1 : j = 0
                    · subst hj1
                      have HAT := Lib.hid (show lasAt o n LA 0 from ⟨by rw [HO.out]; exact hth2, fun h => absurd h (by omega)⟩)
                      go_wp2_with fail
                      refine wp_region_held_drew (S := fun w' => w'.cell? ⟨w.heap.size, 0, none⟩ = some (.slice A0 n0 c0) ∧ w'.cell? ⟨w.heap.size, 1, none⟩ = some (.slice A1 n1 c1) ∧ w'.cell? ⟨b9, o9, none⟩ = some (.int .i64 (gi LA 0))) (by kernel_rfl) (⟨g0, g1, hcj⟩) (fun hHeld => ?_)
                      refine takeH0 (v := ?_) (by kernel_rfl) (by kernel_rfl) (by kernel_rfl) (fun _ _ _ h => h) hHeld (by rfl) ?_ ?_
                      rotate_left; · (intro w hSw; (try dsimp only at hSw); go_simp; try with_reducible rfl)
                      try simp only [Act.put, List.setIfInBounds_toArray, List.set_cons_zero, List.set_cons_succ]
                      refine takeH1 (v := ?_) (by kernel_rfl) (by kernel_rfl) (by kernel_rfl) (fun _ _ _ h => h) hHeld (by rfl) ?_ ?_
                      rotate_left; · (intro w hSw; (try dsimp only at hSw); go_simp; try with_reducible rfl)
                      try simp only [Act.put, List.setIfInBounds_toArray, List.set_cons_zero, List.set_cons_succ]
                      refine takeH2 (v := ?_) (by kernel_rfl) (by kernel_rfl) (by kernel_rfl) (fun _ _ _ h => h) hHeld (by rfl) ?_ ?_
                      rotate_left; · (intro w hSw; (try dsimp only at hSw); go_simp; try with_reducible rfl)
                      try simp only [Act.put, List.setIfInBounds_toArray, List.set_cons_zero, List.set_cons_succ]
                      refine takeH3 (v := ?_) (by kernel_rfl) (by kernel_rfl) (by kernel_rfl) (fun _ _ _ h => h) hHeld (by rfl) ?_ ?_
                      rotate_left; · (intro w hSw; (try dsimp only at hSw); go_simp; try with_reducible rfl)
                      try simp only [Act.put, List.setIfInBounds_toArray, List.set_cons_zero, List.set_cons_succ]
                      refine takeH4 (v := ?_) (by kernel_rfl) (by kernel_rfl) (by kernel_rfl) (fun _ _ _ h => h) hHeld (by rfl) ?_ ?_
                      rotate_left; · (intro w hSw; (try dsimp only at hSw); go_simp; try with_reducible rfl)
                      try simp only [Act.put, List.setIfInBounds_toArray, List.set_cons_zero, List.set_cons_succ]
                      refine callH5 (by kernel_rfl) (fun K hK => ?_)
                      go_simp
                      go_at_call 140
                      refine (l1ThereB _ _ _ _ _ _ _ _ _ (Nat.le_refl _) (by omega)).mono ?_; rintro e wt ⟨rfl, hbt⟩
                      rw [HTH.out]
                      have hbt2 := below_then hbt (Nat.le_refl _) (Below.drew (Below.refl wr.heap.size wr))
                      have bxt := bxr.below hbt2 bxr.lt
                      have hct := keeps_below hbt2 _ _ hcj
                      go_wp2_with fail
                      refine hK.out _ _ (⟨bxt.d0, bxt.d1, hct⟩) (fun hHeld => ?_)
                      clear hK K
                      try simp only [Act.put, List.setIfInBounds_toArray, List.set_cons_zero, List.set_cons_succ]
                      refine takeH6 (v := ?_) (by kernel_rfl) (by kernel_rfl) (by kernel_rfl) (fun _ _ _ h => h) hHeld (by rfl) ?_ ?_
                      rotate_left; · (intro w hSw; (try dsimp only at hSw); go_simp; try with_reducible rfl)
                      try simp only [Act.put, List.setIfInBounds_toArray, List.set_cons_zero, List.set_cons_succ]
                      refine takeH7 (v := ?_) (by kernel_rfl) (by kernel_rfl) (by kernel_rfl) (fun _ _ _ h => h) hHeld (by rfl) ?_ ?_
                      rotate_left; · (intro w hSw; (try dsimp only at hSw); go_simp; try with_reducible rfl)
                      try simp only [Act.put, List.setIfInBounds_toArray, List.set_cons_zero, List.set_cons_succ]
                      refine takeH8 (v := ?_) (by kernel_rfl) (by kernel_rfl) (by kernel_rfl) (fun _ _ _ h => h) hHeld (by rfl) ?_ ?_
                      rotate_left; · (intro w hSw; (try dsimp only at hSw); go_simp; try with_reducible rfl)
                      try simp only [Act.put, List.setIfInBounds_toArray, List.set_cons_zero, List.set_cons_succ]
                      refine takeH9 (v := ?_) (by kernel_rfl) (by kernel_rfl) (by kernel_rfl) (fun _ _ _ h => h) hHeld (by rfl) ?_ ?_
                      rotate_left; · (intro w hSw; (try dsimp only at hSw); go_simp; try with_reducible rfl)
                      try simp only [Act.put, List.setIfInBounds_toArray, List.set_cons_zero, List.set_cons_succ]
                      refine takeH10 (v := ?_) (by kernel_rfl) (by kernel_rfl) (by kernel_rfl) (fun _ _ _ h => h) hHeld (by rfl) ?_ ?_
                      rotate_left; · (intro w hSw; (try dsimp only at hSw); go_simp; try with_reducible rfl)
                      try simp only [Act.put, List.setIfInBounds_toArray, List.set_cons_zero, List.set_cons_succ]
                      refine skipH11 (by kernel_rfl) (by kernel_rfl) (by kernel_rfl) (fun _ _ _ h => h) hHeld (by rfl) ?_
                      try simp only [Act.put, List.setIfInBounds_toArray, List.set_cons_zero, List.set_cons_succ]
                      refine skipH12 (by kernel_rfl) (by kernel_rfl) (by kernel_rfl) (fun _ _ _ h => h) hHeld (by rfl) ?_
                      try simp only [Act.put, List.setIfInBounds_toArray, List.set_cons_zero, List.set_cons_succ]
                      refine skipH13 (by kernel_rfl) (by kernel_rfl) (by kernel_rfl) (fun _ _ _ h => h) hHeld (by rfl) ?_
                      try simp only [Act.put, List.setIfInBounds_toArray, List.set_cons_zero, List.set_cons_succ]
                      refine skipH14 (by kernel_rfl) (by kernel_rfl) (by kernel_rfl) (fun _ _ _ h => h) hHeld (by rfl) ?_
                      try simp only [Act.put, List.setIfInBounds_toArray, List.set_cons_zero, List.set_cons_succ]
                      refine skipH15 (by kernel_rfl) (by kernel_rfl) (by kernel_rfl) (fun _ _ _ h => h) hHeld (by rfl) ?_
                      try simp only [Act.put, List.setIfInBounds_toArray, List.set_cons_zero, List.set_cons_succ]
                      refine skipH16 (by kernel_rfl) (by kernel_rfl) (by kernel_rfl) (fun _ _ _ h => h) hHeld (by rfl) ?_
                      try simp only [Act.put, List.setIfInBounds_toArray, List.set_cons_zero, List.set_cons_succ]
                      refine skipH17 (by kernel_rfl) (by kernel_rfl) (by kernel_rfl) (fun _ _ _ h => h) hHeld (by rfl) ?_
                      try simp only [Act.put, List.setIfInBounds_toArray, List.set_cons_zero, List.set_cons_succ]
                      refine skipH18 (by kernel_rfl) (by kernel_rfl) (by kernel_rfl) (fun _ _ _ h => h) hHeld (by rfl) ?_
                      try simp only [Act.put, List.setIfInBounds_toArray, List.set_cons_zero, List.set_cons_succ]
                      refine skipH19 (by kernel_rfl) (by kernel_rfl) (by kernel_rfl) (fun _ _ _ h => h) hHeld (by rfl) ?_
                      try simp only [Act.put, List.setIfInBounds_toArray, List.set_cons_zero, List.set_cons_succ]
                      refine skipH20 (by kernel_rfl) (by kernel_rfl) (by kernel_rfl) (fun _ _ _ h => h) hHeld (by rfl) ?_
                      try simp only [Act.put, List.setIfInBounds_toArray, List.set_cons_zero, List.set_cons_succ]
                      refine skipH21 (by kernel_rfl) (by kernel_rfl) (by kernel_rfl) (fun _ _ _ h => h) hHeld (by rfl) ?_
                      try simp only [Act.put, List.setIfInBounds_toArray, List.set_cons_zero, List.set_cons_succ]
                      refine skipH22 (by kernel_rfl) (by kernel_rfl) (by kernel_rfl) (fun _ _ _ h => h) hHeld (by rfl) ?_
                      try simp only [Act.put, List.setIfInBounds_toArray, List.set_cons_zero, List.set_cons_succ]
                      refine skipH23 (by kernel_rfl) (by kernel_rfl) (by kernel_rfl) (fun _ _ _ h => h) hHeld (by rfl) ?_
                      try simp only [Act.put, List.setIfInBounds_toArray, List.set_cons_zero, List.set_cons_succ]
                      refine skipH24 (by kernel_rfl) (by kernel_rfl) (by kernel_rfl) (fun _ _ _ h => h) hHeld (by rfl) ?_
                      try simp only [Act.put, List.setIfInBounds_toArray, List.set_cons_zero, List.set_cons_succ]
                      refine skipH25 (by kernel_rfl) (by kernel_rfl) (by kernel_rfl) (fun _ _ _ h => h) hHeld (by rfl) ?_
                      try simp only [Act.put, List.setIfInBounds_toArray, List.set_cons_zero, List.set_cons_succ]
                      refine takeH26 (v := ?_) (by kernel_rfl) (by kernel_rfl) (by kernel_rfl) (fun _ _ _ h => h) hHeld (by rfl) ?_ ?_
                      rotate_left; · (intro w hSw; (try dsimp only at hSw); go_simp; try with_reducible rfl)
                      try simp only [Act.put, List.setIfInBounds_toArray, List.set_cons_zero, List.set_cons_succ]
                      refine takeH27 (v := ?_) (by kernel_rfl) (by kernel_rfl) (by kernel_rfl) (fun _ _ _ h => h) hHeld (by rfl) ?_ ?_
                      rotate_left; · (intro w hSw; (try dsimp only at hSw); go_simp; try with_reducible rfl)
                      try simp only [Act.put, List.setIfInBounds_toArray, List.set_cons_zero, List.set_cons_succ]
                      refine wpAnyH_done (by kernel_rfl) ?_ _
                      go_wp2
                      go_roundw
                      case rel => exact ⟨0 + 1, by omega, by go_num, all_succ HALL.out HAT.out, below_then hbt2 hbr.size hbr⟩
                      case measure => simp [intOf]; omega
                    · have hprev := HALL.out (j - 1) (by omega)
                      have hp1 := hprev.1
                      rw [HO.out] at hp1
                      obtain ⟨u, hu⟩ := Int.eq_ofNat_of_zero_le hp1.1
                      have hun : u < n1 := by have := H01.out; omega
                      have HU := Lib.hid hu
                      obtain ⟨b9', o9', e9, hcp⟩ := hr9.at_ (i := j - 1) (by omega)
                      injection e9 with e9
                      injection e9 with e91 e92
                      subst e91; subst e92
                      have hcq := keeps_below hbr _ _ hcp
                      rw [hu] at hcq
                      obtain ⟨bn, on, An, nn, cn, rfl, hcN, rn⟩ := hb.at_ hun
                      have hcn := keeps_below hwr _ _ hcN
                      have hrow := rn.keep (keeps_below hwr)
                      have e3 : ((j : Int) - 1).toNat = j - 1 := by omega
                      have hjp : (0 : Int) < (j : Int) := by omega
                      have hjn : 0 < j := by omega
                      have hjm : (j : Int) - 1 < (LL : Int) := by omega
                      have hjq : (1 : Int) ≤ (j : Int) := by omega
                      have hui : (u : Int) < (n1 : Int) := by omega
                      have hu0 : (0 : Int) ≤ (u : Int) := by omega
                      clear hu hprev hp1
                      cases hh : hasL (gl n u) (gi LA j) with
                      | false =>
                        have E := Lib.hid (HX.out j hlt (fun h => by have := h.2 (by omega); rw [HU.out, Int.toNat_natCast, hh] at this; cases this))
                        have HH := Lib.hid hh
                        clear hh
                        have ew : IntKind.i64.wrap ((j : Int) - 1) = (j : Int) - 1 := IntWalk.i64_in _ (by omega)
                        go_wp2_with fail
                        refine wp_region_held_drew (S := fun w' => w'.cell? ⟨w.heap.size, 0, none⟩ = some (.slice A0 n0 c0) ∧ w'.cell? ⟨w.heap.size, 1, none⟩ = some (.slice (some ⟨bn, on, none⟩) n1 c1) ∧ w'.cell? ⟨b9, o9 + j, none⟩ = some (.int .i64 (gi LA j)) ∧ w'.cell? ⟨b9, o9 + (j - 1), none⟩ = some (.int .i64 (u : Int)) ∧ w'.cell? ⟨bn, on + u, none⟩ = some (.slice An nn cn)) (by kernel_rfl) (⟨g0, g1, hcj, hcq, hcn⟩) (fun hHeld => ?_)
                        refine takeH0 (v := ?_) (by kernel_rfl) (by kernel_rfl) (by kernel_rfl) (fun _ _ _ h => h) hHeld (by rfl) ?_ ?_
                        rotate_left; · (intro w hSw; (try dsimp only at hSw); go_simp; try with_reducible rfl)
                        try simp only [Act.put, List.setIfInBounds_toArray, List.set_cons_zero, List.set_cons_succ]
                        refine takeH1 (v := ?_) (by kernel_rfl) (by kernel_rfl) (by kernel_rfl) (fun _ _ _ h => h) hHeld (by rfl) ?_ ?_
                        rotate_left; · (intro w hSw; (try dsimp only at hSw); go_simp; try with_reducible rfl)
                        try simp only [Act.put, List.setIfInBounds_toArray, List.set_cons_zero, List.set_cons_succ]
                        refine takeH2 (v := ?_) (by kernel_rfl) (by kernel_rfl) (by kernel_rfl) (fun _ _ _ h => h) hHeld (by rfl) ?_ ?_
                        rotate_left; · (intro w hSw; (try dsimp only at hSw); go_simp; try with_reducible rfl)
                        try simp only [Act.put, List.setIfInBounds_toArray, List.set_cons_zero, List.set_cons_succ]
                        refine takeH3 (v := ?_) (by kernel_rfl) (by kernel_rfl) (by kernel_rfl) (fun _ _ _ h => h) hHeld (by rfl) ?_ ?_
                        rotate_left; · (intro w hSw; (try dsimp only at hSw); go_simp; try with_reducible rfl)
                        try simp only [Act.put, List.setIfInBounds_toArray, List.set_cons_zero, List.set_cons_succ]
                        refine takeH4 (v := ?_) (by kernel_rfl) (by kernel_rfl) (by kernel_rfl) (fun _ _ _ h => h) hHeld (by rfl) ?_ ?_
                        rotate_left; · (intro w hSw; (try dsimp only at hSw); go_simp; try with_reducible rfl)
                        try simp only [Act.put, List.setIfInBounds_toArray, List.set_cons_zero, List.set_cons_succ]
                        refine callH5 (by kernel_rfl) (fun K hK => ?_)
                        go_simp
                        go_at_call 140
                        refine (l1ThereB _ _ _ _ _ _ _ _ _ (Nat.le_refl _) (by omega)).mono ?_; rintro e wt ⟨rfl, hbt⟩
                        rw [HTH.out]
                        have hbt2 := below_then hbt (Nat.le_refl _) (Below.drew (Below.refl wr.heap.size wr))
                        have bxt := bxr.below hbt2 bxr.lt
                        have hct := keeps_below hbt2 _ _ hcj
                        have hcqt := keeps_below hbt2 _ _ hcq
                        have hcnt := keeps_below hbt2 _ _ hcn
                        have hrt := hrow.keep (keeps_below hbt2)
                        go_wp2_with fail
                        refine hK.out _ _ (⟨bxt.d0, bxt.d1, hct, hcqt, hcnt⟩) (fun hHeld => ?_)
                        clear hK K
                        try simp only [Act.put, List.setIfInBounds_toArray, List.set_cons_zero, List.set_cons_succ]
                        refine takeH6 (v := ?_) (by kernel_rfl) (by kernel_rfl) (by kernel_rfl) (fun _ _ _ h => h) hHeld (by rfl) ?_ ?_
                        rotate_left; · (intro w hSw; (try dsimp only at hSw); go_simp; try with_reducible rfl)
                        try simp only [Act.put, List.setIfInBounds_toArray, List.set_cons_zero, List.set_cons_succ]
                        refine takeH7 (v := ?_) (by kernel_rfl) (by kernel_rfl) (by kernel_rfl) (fun _ _ _ h => h) hHeld (by rfl) ?_ ?_
                        rotate_left; · (intro w hSw; (try dsimp only at hSw); go_simp; try with_reducible rfl)
                        try simp only [Act.put, List.setIfInBounds_toArray, List.set_cons_zero, List.set_cons_succ]
                        refine takeH8 (v := ?_) (by kernel_rfl) (by kernel_rfl) (by kernel_rfl) (fun _ _ _ h => h) hHeld (by rfl) ?_ ?_
                        rotate_left; · (intro w hSw; (try dsimp only at hSw); go_simp; try with_reducible rfl)
                        try simp only [Act.put, List.setIfInBounds_toArray, List.set_cons_zero, List.set_cons_succ]
                        refine takeH9 (v := ?_) (by kernel_rfl) (by kernel_rfl) (by kernel_rfl) (fun _ _ _ h => h) hHeld (by rfl) ?_ ?_
                        rotate_left; · (intro w hSw; (try dsimp only at hSw); go_simp; try with_reducible rfl)
                        try simp only [Act.put, List.setIfInBounds_toArray, List.set_cons_zero, List.set_cons_succ]
                        refine takeH10 (v := ?_) (by kernel_rfl) (by kernel_rfl) (by kernel_rfl) (fun _ _ _ h => h) hHeld (by rfl) ?_ ?_
                        rotate_left; · (intro w hSw; (try dsimp only at hSw); go_simp; try with_reducible rfl)
                        try simp only [Act.put, List.setIfInBounds_toArray, List.set_cons_zero, List.set_cons_succ]
                        refine takeH11 (v := ?_) (by kernel_rfl) (by kernel_rfl) (by kernel_rfl) (fun _ _ _ h => h) hHeld (by rfl) ?_ ?_
                        rotate_left; · (intro w hSw; (try dsimp only at hSw); go_simp; try with_reducible rfl)
                        try simp only [Act.put, List.setIfInBounds_toArray, List.set_cons_zero, List.set_cons_succ]
                        refine takeH12 (v := ?_) (by kernel_rfl) (by kernel_rfl) (by kernel_rfl) (fun _ _ _ h => h) hHeld (by rfl) ?_ ?_
                        rotate_left; · (intro w hSw; (try dsimp only at hSw); go_simp; try with_reducible rfl)
                        try simp only [Act.put, List.setIfInBounds_toArray, List.set_cons_zero, List.set_cons_succ]
                        refine takeH13 (v := ?_) (by kernel_rfl) (by kernel_rfl) (by kernel_rfl) (fun _ _ _ h => h) hHeld (by rfl) ?_ ?_
                        rotate_left; · (intro w hSw; (try dsimp only at hSw); go_simp; try with_reducible rfl)
                        try simp only [Act.put, List.setIfInBounds_toArray, List.set_cons_zero, List.set_cons_succ]
                        refine takeH14 (v := ?_) (by kernel_rfl) (by kernel_rfl) (by kernel_rfl) (fun _ _ _ h => h) hHeld (by rfl) ?_ ?_
                        rotate_left; · (intro w hSw; (try dsimp only at hSw); go_simp; try with_reducible rfl)
                        try simp only [Act.put, List.setIfInBounds_toArray, List.set_cons_zero, List.set_cons_succ]
                        refine takeH15 (v := ?_) (by kernel_rfl) (by kernel_rfl) (by kernel_rfl) (fun _ _ _ h => h) hHeld (by rfl) ?_ ?_
                        rotate_left; · (intro w hSw; (try dsimp only at hSw); go_simp; try with_reducible rfl)
                        try simp only [Act.put, List.setIfInBounds_toArray, List.set_cons_zero, List.set_cons_succ]
                        refine takeH16 (v := ?_) (by kernel_rfl) (by kernel_rfl) (by kernel_rfl) (fun _ _ _ h => h) hHeld (by rfl) ?_ ?_
                        rotate_left; · (intro w hSw; (try dsimp only at hSw); go_simp; try with_reducible rfl)
                        try simp only [Act.put, List.setIfInBounds_toArray, List.set_cons_zero, List.set_cons_succ]
                        refine takeH17 (v := ?_) (by kernel_rfl) (by kernel_rfl) (by kernel_rfl) (fun _ _ _ h => h) hHeld (by rfl) ?_ ?_
                        rotate_left; · (intro w hSw; (try dsimp only at hSw); go_simp; try with_reducible rfl)
                        try simp only [Act.put, List.setIfInBounds_toArray, List.set_cons_zero, List.set_cons_succ]
                        refine takeH18 (v := ?_) (by kernel_rfl) (by kernel_rfl) (by kernel_rfl) (fun _ _ _ h => h) hHeld (by rfl) ?_ ?_
                        rotate_left; · (intro w hSw; (try dsimp only at hSw); go_simp; try with_reducible rfl)
                        try simp only [Act.put, List.setIfInBounds_toArray, List.set_cons_zero, List.set_cons_succ]
                        refine takeH19 (v := ?_) (by kernel_rfl) (by kernel_rfl) (by kernel_rfl) (fun _ _ _ h => h) hHeld (by rfl) ?_ ?_
                        rotate_left; · (intro w hSw; (try dsimp only at hSw); go_simp; try with_reducible rfl)
                        try simp only [Act.put, List.setIfInBounds_toArray, List.set_cons_zero, List.set_cons_succ]
                        refine takeH20 (v := ?_) (by kernel_rfl) (by kernel_rfl) (by kernel_rfl) (fun _ _ _ h => h) hHeld (by rfl) ?_ ?_
                        rotate_left; · (intro w hSw; (try dsimp only at hSw); go_simp; try with_reducible rfl)
                        try simp only [Act.put, List.setIfInBounds_toArray, List.set_cons_zero, List.set_cons_succ]
                        refine takeH21 (v := ?_) (by kernel_rfl) (by kernel_rfl) (by kernel_rfl) (fun _ _ _ h => h) hHeld (by rfl) ?_ ?_
                        rotate_left; · (intro w hSw; (try dsimp only at hSw); go_simp; try with_reducible rfl)
                        try simp only [Act.put, List.setIfInBounds_toArray, List.set_cons_zero, List.set_cons_succ]
                        refine takeH22 (v := ?_) (by kernel_rfl) (by kernel_rfl) (by kernel_rfl) (fun _ _ _ h => h) hHeld (by rfl) ?_ ?_
                        rotate_left; · (intro w hSw; (try dsimp only at hSw); go_simp; try with_reducible rfl)
                        try simp only [Act.put, List.setIfInBounds_toArray, List.set_cons_zero, List.set_cons_succ]
                        refine takeH23 (v := ?_) (by kernel_rfl) (by kernel_rfl) (by kernel_rfl) (fun _ _ _ h => h) hHeld (by rfl) ?_ ?_
                        rotate_left; · (intro w hSw; (try dsimp only at hSw); go_simp; try with_reducible rfl)
                        try simp only [Act.put, List.setIfInBounds_toArray, List.set_cons_zero, List.set_cons_succ]
                        refine callH24 (by kernel_rfl) (fun K hK => ?_)
                        go_simp
                        go_at_call 141
                        refine (l1Has _ _ _ _ _ _ hrt).mono ?_; rintro e wh ⟨rfl, qh⟩
                        rw [HH.out]
                        have hbh := below_qt qh hbt2
                        have bxh := bxr.below hbh bxr.lt
                        have h1 := keeps_below hbh _ _ hcj
                        have h2 := keeps_below hbh _ _ hcq
                        have h3 := keeps_below hbh _ _ hcn
                        go_wp2_with fail
                        refine hK.out _ _ (⟨bxh.d0, bxh.d1, h1, h2, h3⟩) (fun hHeld => ?_)
                        clear hK K
                        try simp only [Act.put, List.setIfInBounds_toArray, List.set_cons_zero, List.set_cons_succ]
                        refine takeH25 (v := ?_) (by kernel_rfl) (by kernel_rfl) (by kernel_rfl) (fun _ _ _ h => h) hHeld (by rfl) ?_ ?_
                        rotate_left; · (intro w hSw; (try dsimp only at hSw); go_simp; try with_reducible rfl)
                        try simp only [Act.put, List.setIfInBounds_toArray, List.set_cons_zero, List.set_cons_succ]
                        refine takeH26 (v := ?_) (by kernel_rfl) (by kernel_rfl) (by kernel_rfl) (fun _ _ _ h => h) hHeld (by rfl) ?_ ?_
                        rotate_left; · (intro w hSw; (try dsimp only at hSw); go_simp; try with_reducible rfl)
                        try simp only [Act.put, List.setIfInBounds_toArray, List.set_cons_zero, List.set_cons_succ]
                        refine takeH27 (v := ?_) (by kernel_rfl) (by kernel_rfl) (by kernel_rfl) (fun _ _ _ h => h) hHeld (by rfl) ?_ ?_
                        rotate_left; · (intro w hSw; (try dsimp only at hSw); go_simp; try with_reducible rfl)
                        try simp only [Act.put, List.setIfInBounds_toArray, List.set_cons_zero, List.set_cons_succ]
                        refine wpAnyH_done (by kernel_rfl) ?_ _
                        clear ew
                        go_wp2
                        go_ret
                        exact ⟨ret_b E.out.symm, (below_then hbh hwr.size hwr).mono hB⟩
                      | true =>
                        have HAT := Lib.hid (show lasAt o n LA j from ⟨by rw [HO.out]; exact hth2, fun _ => by rw [HU.out, Int.toNat_natCast]; exact hh⟩)
                        have HH := Lib.hid hh
                        clear hh
                        have ew : IntKind.i64.wrap ((j : Int) - 1) = (j : Int) - 1 := IntWalk.i64_in _ (by omega)
                        go_wp2_with fail
                        refine wp_region_held_drew (S := fun w' => w'.cell? ⟨w.heap.size, 0, none⟩ = some (.slice A0 n0 c0) ∧ w'.cell? ⟨w.heap.size, 1, none⟩ = some (.slice (some ⟨bn, on, none⟩) n1 c1) ∧ w'.cell? ⟨b9, o9 + j, none⟩ = some (.int .i64 (gi LA j)) ∧ w'.cell? ⟨b9, o9 + (j - 1), none⟩ = some (.int .i64 (u : Int)) ∧ w'.cell? ⟨bn, on + u, none⟩ = some (.slice An nn cn)) (by kernel_rfl) (⟨g0, g1, hcj, hcq, hcn⟩) (fun hHeld => ?_)
                        refine takeH0 (v := ?_) (by kernel_rfl) (by kernel_rfl) (by kernel_rfl) (fun _ _ _ h => h) hHeld (by rfl) ?_ ?_
                        rotate_left; · (intro w hSw; (try dsimp only at hSw); go_simp; try with_reducible rfl)
                        try simp only [Act.put, List.setIfInBounds_toArray, List.set_cons_zero, List.set_cons_succ]
                        refine takeH1 (v := ?_) (by kernel_rfl) (by kernel_rfl) (by kernel_rfl) (fun _ _ _ h => h) hHeld (by rfl) ?_ ?_
                        rotate_left; · (intro w hSw; (try dsimp only at hSw); go_simp; try with_reducible rfl)
                        try simp only [Act.put, List.setIfInBounds_toArray, List.set_cons_zero, List.set_cons_succ]
                        refine takeH2 (v := ?_) (by kernel_rfl) (by kernel_rfl) (by kernel_rfl) (fun _ _ _ h => h) hHeld (by rfl) ?_ ?_
                        rotate_left; · (intro w hSw; (try dsimp only at hSw); go_simp; try with_reducible rfl)
                        try simp only [Act.put, List.setIfInBounds_toArray, List.set_cons_zero, List.set_cons_succ]
                        refine takeH3 (v := ?_) (by kernel_rfl) (by kernel_rfl) (by kernel_rfl) (fun _ _ _ h => h) hHeld (by rfl) ?_ ?_
                        rotate_left; · (intro w hSw; (try dsimp only at hSw); go_simp; try with_reducible rfl)
                        try simp only [Act.put, List.setIfInBounds_toArray, List.set_cons_zero, List.set_cons_succ]
                        refine takeH4 (v := ?_) (by kernel_rfl) (by kernel_rfl) (by kernel_rfl) (fun _ _ _ h => h) hHeld (by rfl) ?_ ?_
                        rotate_left; · (intro w hSw; (try dsimp only at hSw); go_simp; try with_reducible rfl)
                        try simp only [Act.put, List.setIfInBounds_toArray, List.set_cons_zero, List.set_cons_succ]
                        refine callH5 (by kernel_rfl) (fun K hK => ?_)
                        go_simp
                        go_at_call 140
                        refine (l1ThereB _ _ _ _ _ _ _ _ _ (Nat.le_refl _) (by omega)).mono ?_; rintro e wt ⟨rfl, hbt⟩
                        rw [HTH.out]
                        have hbt2 := below_then hbt (Nat.le_refl _) (Below.drew (Below.refl wr.heap.size wr))
                        have bxt := bxr.below hbt2 bxr.lt
                        have hct := keeps_below hbt2 _ _ hcj
                        have hcqt := keeps_below hbt2 _ _ hcq
                        have hcnt := keeps_below hbt2 _ _ hcn
                        have hrt := hrow.keep (keeps_below hbt2)
                        go_wp2_with fail
                        refine hK.out _ _ (⟨bxt.d0, bxt.d1, hct, hcqt, hcnt⟩) (fun hHeld => ?_)
                        clear hK K
                        try simp only [Act.put, List.setIfInBounds_toArray, List.set_cons_zero, List.set_cons_succ]
                        refine takeH6 (v := ?_) (by kernel_rfl) (by kernel_rfl) (by kernel_rfl) (fun _ _ _ h => h) hHeld (by rfl) ?_ ?_
                        rotate_left; · (intro w hSw; (try dsimp only at hSw); go_simp; try with_reducible rfl)
                        try simp only [Act.put, List.setIfInBounds_toArray, List.set_cons_zero, List.set_cons_succ]
                        refine takeH7 (v := ?_) (by kernel_rfl) (by kernel_rfl) (by kernel_rfl) (fun _ _ _ h => h) hHeld (by rfl) ?_ ?_
                        rotate_left; · (intro w hSw; (try dsimp only at hSw); go_simp; try with_reducible rfl)
                        try simp only [Act.put, List.setIfInBounds_toArray, List.set_cons_zero, List.set_cons_succ]
                        refine takeH8 (v := ?_) (by kernel_rfl) (by kernel_rfl) (by kernel_rfl) (fun _ _ _ h => h) hHeld (by rfl) ?_ ?_
                        rotate_left; · (intro w hSw; (try dsimp only at hSw); go_simp; try with_reducible rfl)
                        try simp only [Act.put, List.setIfInBounds_toArray, List.set_cons_zero, List.set_cons_succ]
                        refine takeH9 (v := ?_) (by kernel_rfl) (by kernel_rfl) (by kernel_rfl) (fun _ _ _ h => h) hHeld (by rfl) ?_ ?_
                        rotate_left; · (intro w hSw; (try dsimp only at hSw); go_simp; try with_reducible rfl)
                        try simp only [Act.put, List.setIfInBounds_toArray, List.set_cons_zero, List.set_cons_succ]
                        refine takeH10 (v := ?_) (by kernel_rfl) (by kernel_rfl) (by kernel_rfl) (fun _ _ _ h => h) hHeld (by rfl) ?_ ?_
                        rotate_left; · (intro w hSw; (try dsimp only at hSw); go_simp; try with_reducible rfl)
                        try simp only [Act.put, List.setIfInBounds_toArray, List.set_cons_zero, List.set_cons_succ]
                        refine takeH11 (v := ?_) (by kernel_rfl) (by kernel_rfl) (by kernel_rfl) (fun _ _ _ h => h) hHeld (by rfl) ?_ ?_
                        rotate_left; · (intro w hSw; (try dsimp only at hSw); go_simp; try with_reducible rfl)
                        try simp only [Act.put, List.setIfInBounds_toArray, List.set_cons_zero, List.set_cons_succ]
                        refine takeH12 (v := ?_) (by kernel_rfl) (by kernel_rfl) (by kernel_rfl) (fun _ _ _ h => h) hHeld (by rfl) ?_ ?_
                        rotate_left; · (intro w hSw; (try dsimp only at hSw); go_simp; try with_reducible rfl)
                        try simp only [Act.put, List.setIfInBounds_toArray, List.set_cons_zero, List.set_cons_succ]
                        refine takeH13 (v := ?_) (by kernel_rfl) (by kernel_rfl) (by kernel_rfl) (fun _ _ _ h => h) hHeld (by rfl) ?_ ?_
                        rotate_left; · (intro w hSw; (try dsimp only at hSw); go_simp; try with_reducible rfl)
                        try simp only [Act.put, List.setIfInBounds_toArray, List.set_cons_zero, List.set_cons_succ]
                        refine takeH14 (v := ?_) (by kernel_rfl) (by kernel_rfl) (by kernel_rfl) (fun _ _ _ h => h) hHeld (by rfl) ?_ ?_
                        rotate_left; · (intro w hSw; (try dsimp only at hSw); go_simp; try with_reducible rfl)
                        try simp only [Act.put, List.setIfInBounds_toArray, List.set_cons_zero, List.set_cons_succ]
                        refine takeH15 (v := ?_) (by kernel_rfl) (by kernel_rfl) (by kernel_rfl) (fun _ _ _ h => h) hHeld (by rfl) ?_ ?_
                        rotate_left; · (intro w hSw; (try dsimp only at hSw); go_simp; try with_reducible rfl)
                        try simp only [Act.put, List.setIfInBounds_toArray, List.set_cons_zero, List.set_cons_succ]
                        refine takeH16 (v := ?_) (by kernel_rfl) (by kernel_rfl) (by kernel_rfl) (fun _ _ _ h => h) hHeld (by rfl) ?_ ?_
                        rotate_left; · (intro w hSw; (try dsimp only at hSw); go_simp; try with_reducible rfl)
                        try simp only [Act.put, List.setIfInBounds_toArray, List.set_cons_zero, List.set_cons_succ]
                        refine takeH17 (v := ?_) (by kernel_rfl) (by kernel_rfl) (by kernel_rfl) (fun _ _ _ h => h) hHeld (by rfl) ?_ ?_
                        rotate_left; · (intro w hSw; (try dsimp only at hSw); go_simp; try with_reducible rfl)
                        try simp only [Act.put, List.setIfInBounds_toArray, List.set_cons_zero, List.set_cons_succ]
                        refine takeH18 (v := ?_) (by kernel_rfl) (by kernel_rfl) (by kernel_rfl) (fun _ _ _ h => h) hHeld (by rfl) ?_ ?_
                        rotate_left; · (intro w hSw; (try dsimp only at hSw); go_simp; try with_reducible rfl)
                        try simp only [Act.put, List.setIfInBounds_toArray, List.set_cons_zero, List.set_cons_succ]
                        refine takeH19 (v := ?_) (by kernel_rfl) (by kernel_rfl) (by kernel_rfl) (fun _ _ _ h => h) hHeld (by rfl) ?_ ?_
                        rotate_left; · (intro w hSw; (try dsimp only at hSw); go_simp; try with_reducible rfl)
                        try simp only [Act.put, List.setIfInBounds_toArray, List.set_cons_zero, List.set_cons_succ]
                        refine takeH20 (v := ?_) (by kernel_rfl) (by kernel_rfl) (by kernel_rfl) (fun _ _ _ h => h) hHeld (by rfl) ?_ ?_
                        rotate_left; · (intro w hSw; (try dsimp only at hSw); go_simp; try with_reducible rfl)
                        try simp only [Act.put, List.setIfInBounds_toArray, List.set_cons_zero, List.set_cons_succ]
                        refine takeH21 (v := ?_) (by kernel_rfl) (by kernel_rfl) (by kernel_rfl) (fun _ _ _ h => h) hHeld (by rfl) ?_ ?_
                        rotate_left; · (intro w hSw; (try dsimp only at hSw); go_simp; try with_reducible rfl)
                        try simp only [Act.put, List.setIfInBounds_toArray, List.set_cons_zero, List.set_cons_succ]
                        refine takeH22 (v := ?_) (by kernel_rfl) (by kernel_rfl) (by kernel_rfl) (fun _ _ _ h => h) hHeld (by rfl) ?_ ?_
                        rotate_left; · (intro w hSw; (try dsimp only at hSw); go_simp; try with_reducible rfl)
                        try simp only [Act.put, List.setIfInBounds_toArray, List.set_cons_zero, List.set_cons_succ]
                        refine takeH23 (v := ?_) (by kernel_rfl) (by kernel_rfl) (by kernel_rfl) (fun _ _ _ h => h) hHeld (by rfl) ?_ ?_
                        rotate_left; · (intro w hSw; (try dsimp only at hSw); go_simp; try with_reducible rfl)
                        try simp only [Act.put, List.setIfInBounds_toArray, List.set_cons_zero, List.set_cons_succ]
                        refine callH24 (by kernel_rfl) (fun K hK => ?_)
                        go_simp
                        go_at_call 141
                        refine (l1Has _ _ _ _ _ _ hrt).mono ?_; rintro e wh ⟨rfl, qh⟩
                        rw [HH.out]
                        have hbh := below_qt qh hbt2
                        have bxh := bxr.below hbh bxr.lt
                        have h1 := keeps_below hbh _ _ hcj
                        have h2 := keeps_below hbh _ _ hcq
                        have h3 := keeps_below hbh _ _ hcn
                        go_wp2_with fail
                        refine hK.out _ _ (⟨bxh.d0, bxh.d1, h1, h2, h3⟩) (fun hHeld => ?_)
                        clear hK K
                        try simp only [Act.put, List.setIfInBounds_toArray, List.set_cons_zero, List.set_cons_succ]
                        refine takeH25 (v := ?_) (by kernel_rfl) (by kernel_rfl) (by kernel_rfl) (fun _ _ _ h => h) hHeld (by rfl) ?_ ?_
                        rotate_left; · (intro w hSw; (try dsimp only at hSw); go_simp; try with_reducible rfl)
                        try simp only [Act.put, List.setIfInBounds_toArray, List.set_cons_zero, List.set_cons_succ]
                        refine takeH26 (v := ?_) (by kernel_rfl) (by kernel_rfl) (by kernel_rfl) (fun _ _ _ h => h) hHeld (by rfl) ?_ ?_
                        rotate_left; · (intro w hSw; (try dsimp only at hSw); go_simp; try with_reducible rfl)
                        try simp only [Act.put, List.setIfInBounds_toArray, List.set_cons_zero, List.set_cons_succ]
                        refine takeH27 (v := ?_) (by kernel_rfl) (by kernel_rfl) (by kernel_rfl) (fun _ _ _ h => h) hHeld (by rfl) ?_ ?_
                        rotate_left; · (intro w hSw; (try dsimp only at hSw); go_simp; try with_reducible rfl)
                        try simp only [Act.put, List.setIfInBounds_toArray, List.set_cons_zero, List.set_cons_succ]
                        refine wpAnyH_done (by kernel_rfl) ?_ _
                        clear ew
                        go_wp2
                        go_roundw
                        case rel => exact ⟨j + 1, by omega, by go_num, all_succ HALL.out HAT.out, below_then hbh hbr.size hbr⟩
                        case measure => simp [intOf]; omega
                · obtain rfl : j = LL := by omega
                  have E := Lib.hid (HE.out HALL.out)
                  go_wp2
                  go_ret
                  exact ⟨ret_b E.out.symm, hwr.mono hB⟩
          · go_simp
            have hlbC : Below W.heap.size W (W.alloc (.cells #[.int .i64 (gi z.2 0)] 2)) := below_alloc (Nat.le_refl _) (Below.refl _ _)
            have honeC : RI (W.alloc (.cells #[.int .i64 (gi z.2 0)] 2)) (some ⟨W.heap.size, 0, none⟩) 1 1 [gi z.2 0] := RI.one1 ((Box.new W 2 #[.int .i64 (gi z.2 0)]).cell 0)
            have hwC : Below w.heap.size w (W.alloc (.cells #[.int .i64 (gi z.2 0)] 2)) := below_then hlbC hw1.size hw1
            have blC := bl.below hlbC bl.lt
            have bxC := bx.below hlbC bx.lt
            have hcC := keeps_below hwC _ _ hcL
            have lC := hlbC.size
            have sC : W.heap.size + 1 = (W.alloc (.cells #[.int .i64 (gi z.2 0)] 2)).heap.size := by simp
            refine hK.out _ _ (⟨blC.d0, blC.d1, hcC⟩) (fun hHeld => ?_)
            clear hK K
            try simp only [Act.put, List.setIfInBounds_toArray, List.set_cons_zero, List.set_cons_succ]
            refine callH2 (by kernel_rfl) (fun K hK => ?_)
            go_simp
            go_at_call 143
            refine (l1Copy _ _ _ z.1 _ _ (Nat.le_refl _) (hs.keep (keeps_below hwC)) (by omega)).mono ?_; rintro e wc ⟨vc, rfl, hoc, hbc⟩
            obtain ⟨Ac, cc, rfl⟩ := hoc.form
            have hwc : Below w.heap.size w wc := below_then hbc hwC.size hwC
            have blc := blC.below hbc blC.lt
            have hcc := keeps_below hwc _ _ hcL
            have bxc := bxC.below hbc bxC.lt
            have lc1 : w.heap.size + 2 ≤ (W.alloc (.cells #[.int .i64 (gi z.2 0)] 2)).heap.size := by have := blC.lt; omega
            have lc2 := hbc.size
            go_wp2_with fail
            refine hK.out _ _ (⟨blc.d0, blc.d1, hcc⟩) (fun hHeld => ?_)
            clear hK K
            try simp only [Act.put, List.setIfInBounds_toArray, List.set_cons_zero, List.set_cons_succ]
            refine callH5 (by kernel_rfl) (fun K hK => ?_)
            refine step_of_list (by rfl) (wp_appI (.tmp 30) (.tmp 32) (by rfl) wc (W.alloc (.cells #[.int .i64 (gi z.2 0)] 2)).heap.size (.slice Ac z.1.length cc) z.1 (by rfl) hoc (some ⟨bL, oL, none⟩) k f z.2 (by rfl) (hl.keep (keeps_below hwc)) (by rw [HM.out]; omega) (by omega) (by omega) ?_)
            intro va wa hoa hba hca hata
            clear hata
            have hbL : Box wa W.heap.size 2 #[.int .i64 (gi z.2 0)] := ((Box.new W 2 #[.int .i64 (gi z.2 0)]).below hbc (by omega)).chg hca (fun e => by have := (hoc.lt _ e).1; omega)
            clear hca
            have hwa : Below w.heap.size w wa := hwc.trans (hba.mono (by omega))
            have bla := blc.below hba (by omega)
            have hcaL := keeps_below hwa _ _ hcL
            have bxa := bxc.below hba (by omega)
            generalize hZA : z.1 ++ z.2 = ZA at *
            have HZA := Lib.hid hZA
            have hZl : ZA.length ≤ 512 := by rw [← hZA, List.length_append, HM.out, HK.out]; omega
            clear hZA
            obtain ⟨Aa, ca, rfl⟩ := hoa.form
            have la2 := hba.size
            refine hK.out _ _ (⟨bla.d0, bla.d1, hcaL⟩) (fun hHeld => ?_)
            clear hK K
            try simp only [Act.put, List.setIfInBounds_toArray, List.set_cons_zero, List.set_cons_succ]
            refine callH11 (by kernel_rfl) (fun K hK => ?_)
            refine step_of_list (by rfl) (wp_appI (.tmp 33) (.tmp 38) (by rfl) wa (W.alloc (.cells #[.int .i64 (gi z.2 0)] 2)).heap.size (.slice Aa ZA.length ca) ZA (by rfl) hoa (some ⟨W.heap.size, 0, none⟩) 1 1 [gi z.2 0] (by rfl) (RI.one1 (hbL.cell 0)) (by omega) (by omega) (by omega) ?_)
            intro v9 w9 ho9 hb9 hc9 hat9
            clear hc9 hat9
            generalize hLA : ZA ++ [gi z.2 0] = LA at *
            have HLA := Lib.hid (show LA = lasAll z by rw [← hLA, ← HZA.out]; rfl)
            clear hLA
            obtain ⟨A9, c9, rfl⟩ := ho9.form
            have hw9 : Below w.heap.size w w9 := hwa.trans (hb9.mono (by omega))
            have bl9 := bla.below hb9 (by omega)
            have hc9L := keeps_below hw9 _ _ hcL
            have bx9 := bxa.below hb9 (by omega)
            refine hK.out _ _ (⟨bl9.d0, bl9.d1, hc9L⟩) (fun hHeld => ?_)
            clear hK K
            try simp only [Act.put, List.setIfInBounds_toArray, List.set_cons_zero, List.set_cons_succ]
            refine takeH12 (v := ?_) (by kernel_rfl) (by kernel_rfl) (by kernel_rfl) (fun _ _ _ h => h) hHeld (by rfl) ?_ ?_
            rotate_left; · (intro w hSw; (try dsimp only at hSw); go_simp; try with_reducible rfl)
            try simp only [Act.put, List.setIfInBounds_toArray, List.set_cons_zero, List.set_cons_succ]
            refine wpAnyH_done (by kernel_rfl) ?_ _
            have hl9 : LA.length = m + k + 1 := by rw [HLA.out]; exact HAL.out
            have HE := Lib.hid (show (∀ i, i < LA.length → lasAt o n LA i) → lasB o n z = true from fun h => by rw [EB.out]; exact lasE_yes HLN.out (by rw [← HLA.out]; exact h))
            have HX := Lib.hid (show ∀ i, i < LA.length → ¬ lasAt o n LA i → lasB o n z = false from fun i hi h => by rw [EB.out]; exact lasE_no (by rw [← HLA.out]; exact hi) (by rw [← HLA.out]; exact h))
            have hr9 := ho9.reads
            have HL9 := Lib.hid hl9
            have hl9a : LA.length ≤ 513 := by omega
            clear hl9 HLA
            generalize hLL : LA.length = LL at *
            have HLL := Lib.hid hLL
            clear hLL
            go_wp2
            go_loopw [6] (fun i wr => ∃ j : Nat, j ≤ LL ∧ i = .int .i64 j ∧ (∀ i, i < j → lasAt o n LA i) ∧ Below w9.heap.size w9 wr) (fun i _ => LL - (intOf i).toNat)
            case atStart => exact ⟨0, Nat.zero_le _, rfl, fun i h => absurd h (by omega), Below.refl _ _⟩
            case round =>
              obtain ⟨j, hj, rfl, hall, hbr⟩ := hrel
              have HALL := Lib.hid hall
              clear hall
              have bxr := bx9.below hbr bx9.lt
              have hwr := below_then hbr hw9.size hw9
              by_cases hlt : j < LL
              · obtain ⟨b9, o9, rfl, hc9⟩ := hr9.at_ hlt
                have hcj := keeps_below hbr _ _ hc9
                have g0 := bxr.d0; have g1 := bxr.d1
                have hji : (j : Int) < (LL : Int) := by omega
                have hj0 : (0 : Int) ≤ (j : Int) := by omega
                cases hth : thereB (gi LA j) n0 with
                | false =>
                  have E := Lib.hid (HX.out j hlt (fun h => by have := of_decide_eq_false hth; rw [← HO.out] at this; exact this h.1))
                  have HTH := Lib.hid hth
                  clear hth
                  go_wp2_with fail
                  refine wp_region_held_drew (S := fun w' => w'.cell? ⟨w.heap.size, 0, none⟩ = some (.slice A0 n0 c0) ∧ w'.cell? ⟨w.heap.size, 1, none⟩ = some (.slice A1 n1 c1) ∧ w'.cell? ⟨b9, o9 + j, none⟩ = some (.int .i64 (gi LA j))) (by kernel_rfl) (⟨g0, g1, hcj⟩) (fun hHeld => ?_)
                  refine takeH0 (v := ?_) (by kernel_rfl) (by kernel_rfl) (by kernel_rfl) (fun _ _ _ h => h) hHeld (by rfl) ?_ ?_
                  rotate_left; · (intro w hSw; (try dsimp only at hSw); go_simp; try with_reducible rfl)
                  try simp only [Act.put, List.setIfInBounds_toArray, List.set_cons_zero, List.set_cons_succ]
                  refine takeH1 (v := ?_) (by kernel_rfl) (by kernel_rfl) (by kernel_rfl) (fun _ _ _ h => h) hHeld (by rfl) ?_ ?_
                  rotate_left; · (intro w hSw; (try dsimp only at hSw); go_simp; try with_reducible rfl)
                  try simp only [Act.put, List.setIfInBounds_toArray, List.set_cons_zero, List.set_cons_succ]
                  refine takeH2 (v := ?_) (by kernel_rfl) (by kernel_rfl) (by kernel_rfl) (fun _ _ _ h => h) hHeld (by rfl) ?_ ?_
                  rotate_left; · (intro w hSw; (try dsimp only at hSw); go_simp; try with_reducible rfl)
                  try simp only [Act.put, List.setIfInBounds_toArray, List.set_cons_zero, List.set_cons_succ]
                  refine takeH3 (v := ?_) (by kernel_rfl) (by kernel_rfl) (by kernel_rfl) (fun _ _ _ h => h) hHeld (by rfl) ?_ ?_
                  rotate_left; · (intro w hSw; (try dsimp only at hSw); go_simp; try with_reducible rfl)
                  try simp only [Act.put, List.setIfInBounds_toArray, List.set_cons_zero, List.set_cons_succ]
                  refine takeH4 (v := ?_) (by kernel_rfl) (by kernel_rfl) (by kernel_rfl) (fun _ _ _ h => h) hHeld (by rfl) ?_ ?_
                  rotate_left; · (intro w hSw; (try dsimp only at hSw); go_simp; try with_reducible rfl)
                  try simp only [Act.put, List.setIfInBounds_toArray, List.set_cons_zero, List.set_cons_succ]
                  refine callH5 (by kernel_rfl) (fun K hK => ?_)
                  go_simp
                  go_at_call 140
                  refine (l1ThereB _ _ _ _ _ _ _ _ _ (Nat.le_refl _) (by omega)).mono ?_; rintro e wt ⟨rfl, hbt⟩
                  rw [HTH.out]
                  have hbt2 := below_then hbt (Nat.le_refl _) (Below.drew (Below.refl wr.heap.size wr))
                  have bxt := bxr.below hbt2 bxr.lt
                  have hct := keeps_below hbt2 _ _ hcj
                  go_wp2_with fail
                  refine hK.out _ _ (⟨bxt.d0, bxt.d1, hct⟩) (fun hHeld => ?_)
                  clear hK K
                  try simp only [Act.put, List.setIfInBounds_toArray, List.set_cons_zero, List.set_cons_succ]
                  refine takeH6 (v := ?_) (by kernel_rfl) (by kernel_rfl) (by kernel_rfl) (fun _ _ _ h => h) hHeld (by rfl) ?_ ?_
                  rotate_left; · (intro w hSw; (try dsimp only at hSw); go_simp; try with_reducible rfl)
                  try simp only [Act.put, List.setIfInBounds_toArray, List.set_cons_zero, List.set_cons_succ]
                  refine takeH7 (v := ?_) (by kernel_rfl) (by kernel_rfl) (by kernel_rfl) (fun _ _ _ h => h) hHeld (by rfl) ?_ ?_
                  rotate_left; · (intro w hSw; (try dsimp only at hSw); go_simp; try with_reducible rfl)
                  try simp only [Act.put, List.setIfInBounds_toArray, List.set_cons_zero, List.set_cons_succ]
                  refine skipH8 (by kernel_rfl) (by kernel_rfl) (by kernel_rfl) (fun _ _ _ h => h) hHeld (by rfl) ?_
                  try simp only [Act.put, List.setIfInBounds_toArray, List.set_cons_zero, List.set_cons_succ]
                  refine skipH9 (by kernel_rfl) (by kernel_rfl) (by kernel_rfl) (fun _ _ _ h => h) hHeld (by rfl) ?_
                  try simp only [Act.put, List.setIfInBounds_toArray, List.set_cons_zero, List.set_cons_succ]
                  refine skipH10 (by kernel_rfl) (by kernel_rfl) (by kernel_rfl) (fun _ _ _ h => h) hHeld (by rfl) ?_
                  try simp only [Act.put, List.setIfInBounds_toArray, List.set_cons_zero, List.set_cons_succ]
                  refine skipH11 (by kernel_rfl) (by kernel_rfl) (by kernel_rfl) (fun _ _ _ h => h) hHeld (by rfl) ?_
                  try simp only [Act.put, List.setIfInBounds_toArray, List.set_cons_zero, List.set_cons_succ]
                  refine skipH12 (by kernel_rfl) (by kernel_rfl) (by kernel_rfl) (fun _ _ _ h => h) hHeld (by rfl) ?_
                  try simp only [Act.put, List.setIfInBounds_toArray, List.set_cons_zero, List.set_cons_succ]
                  refine skipH13 (by kernel_rfl) (by kernel_rfl) (by kernel_rfl) (fun _ _ _ h => h) hHeld (by rfl) ?_
                  try simp only [Act.put, List.setIfInBounds_toArray, List.set_cons_zero, List.set_cons_succ]
                  refine skipH14 (by kernel_rfl) (by kernel_rfl) (by kernel_rfl) (fun _ _ _ h => h) hHeld (by rfl) ?_
                  try simp only [Act.put, List.setIfInBounds_toArray, List.set_cons_zero, List.set_cons_succ]
                  refine skipH15 (by kernel_rfl) (by kernel_rfl) (by kernel_rfl) (fun _ _ _ h => h) hHeld (by rfl) ?_
                  try simp only [Act.put, List.setIfInBounds_toArray, List.set_cons_zero, List.set_cons_succ]
                  refine skipH16 (by kernel_rfl) (by kernel_rfl) (by kernel_rfl) (fun _ _ _ h => h) hHeld (by rfl) ?_
                  try simp only [Act.put, List.setIfInBounds_toArray, List.set_cons_zero, List.set_cons_succ]
                  refine skipH17 (by kernel_rfl) (by kernel_rfl) (by kernel_rfl) (fun _ _ _ h => h) hHeld (by rfl) ?_
                  try simp only [Act.put, List.setIfInBounds_toArray, List.set_cons_zero, List.set_cons_succ]
                  refine skipH18 (by kernel_rfl) (by kernel_rfl) (by kernel_rfl) (fun _ _ _ h => h) hHeld (by rfl) ?_
                  try simp only [Act.put, List.setIfInBounds_toArray, List.set_cons_zero, List.set_cons_succ]
                  refine skipH19 (by kernel_rfl) (by kernel_rfl) (by kernel_rfl) (fun _ _ _ h => h) hHeld (by rfl) ?_
                  try simp only [Act.put, List.setIfInBounds_toArray, List.set_cons_zero, List.set_cons_succ]
                  refine skipH20 (by kernel_rfl) (by kernel_rfl) (by kernel_rfl) (fun _ _ _ h => h) hHeld (by rfl) ?_
                  try simp only [Act.put, List.setIfInBounds_toArray, List.set_cons_zero, List.set_cons_succ]
                  refine skipH21 (by kernel_rfl) (by kernel_rfl) (by kernel_rfl) (fun _ _ _ h => h) hHeld (by rfl) ?_
                  try simp only [Act.put, List.setIfInBounds_toArray, List.set_cons_zero, List.set_cons_succ]
                  refine skipH22 (by kernel_rfl) (by kernel_rfl) (by kernel_rfl) (fun _ _ _ h => h) hHeld (by rfl) ?_
                  try simp only [Act.put, List.setIfInBounds_toArray, List.set_cons_zero, List.set_cons_succ]
                  refine skipH23 (by kernel_rfl) (by kernel_rfl) (by kernel_rfl) (fun _ _ _ h => h) hHeld (by rfl) ?_
                  try simp only [Act.put, List.setIfInBounds_toArray, List.set_cons_zero, List.set_cons_succ]
                  refine skipH24 (by kernel_rfl) (by kernel_rfl) (by kernel_rfl) (fun _ _ _ h => h) hHeld (by rfl) ?_
                  try simp only [Act.put, List.setIfInBounds_toArray, List.set_cons_zero, List.set_cons_succ]
                  refine skipH25 (by kernel_rfl) (by kernel_rfl) (by kernel_rfl) (fun _ _ _ h => h) hHeld (by rfl) ?_
                  try simp only [Act.put, List.setIfInBounds_toArray, List.set_cons_zero, List.set_cons_succ]
                  refine skipH26 (by kernel_rfl) (by kernel_rfl) (by kernel_rfl) (fun _ _ _ h => h) hHeld (by rfl) ?_
                  try simp only [Act.put, List.setIfInBounds_toArray, List.set_cons_zero, List.set_cons_succ]
                  refine takeH27 (v := ?_) (by kernel_rfl) (by kernel_rfl) (by kernel_rfl) (fun _ _ _ h => h) hHeld (by rfl) ?_ ?_
                  rotate_left; · (intro w hSw; (try dsimp only at hSw); go_simp; try with_reducible rfl)
                  try simp only [Act.put, List.setIfInBounds_toArray, List.set_cons_zero, List.set_cons_succ]
                  refine wpAnyH_done (by kernel_rfl) ?_ _
                  go_wp2
                  go_ret
                  exact ⟨ret_b E.out.symm, (below_then hbt2 hwr.size hwr).mono hB⟩
                | true =>
                  have hth2 := of_decide_eq_true hth
                  have HTH := Lib.hid hth
                  clear hth
                  by_cases hj1 : j = 0
                  · subst hj1
                    have HAT := Lib.hid (show lasAt o n LA 0 from ⟨by rw [HO.out]; exact hth2, fun h => absurd h (by omega)⟩)
                    go_wp2_with fail
                    refine wp_region_held_drew (S := fun w' => w'.cell? ⟨w.heap.size, 0, none⟩ = some (.slice A0 n0 c0) ∧ w'.cell? ⟨w.heap.size, 1, none⟩ = some (.slice A1 n1 c1) ∧ w'.cell? ⟨b9, o9, none⟩ = some (.int .i64 (gi LA 0))) (by kernel_rfl) (⟨g0, g1, hcj⟩) (fun hHeld => ?_)
                    refine takeH0 (v := ?_) (by kernel_rfl) (by kernel_rfl) (by kernel_rfl) (fun _ _ _ h => h) hHeld (by rfl) ?_ ?_
                    rotate_left; · (intro w hSw; (try dsimp only at hSw); go_simp; try with_reducible rfl)
                    try simp only [Act.put, List.setIfInBounds_toArray, List.set_cons_zero, List.set_cons_succ]
                    refine takeH1 (v := ?_) (by kernel_rfl) (by kernel_rfl) (by kernel_rfl) (fun _ _ _ h => h) hHeld (by rfl) ?_ ?_
                    rotate_left; · (intro w hSw; (try dsimp only at hSw); go_simp; try with_reducible rfl)
                    try simp only [Act.put, List.setIfInBounds_toArray, List.set_cons_zero, List.set_cons_succ]
                    refine takeH2 (v := ?_) (by kernel_rfl) (by kernel_rfl) (by kernel_rfl) (fun _ _ _ h => h) hHeld (by rfl) ?_ ?_
                    rotate_left; · (intro w hSw; (try dsimp only at hSw); go_simp; try with_reducible rfl)
                    try simp only [Act.put, List.setIfInBounds_toArray, List.set_cons_zero, List.set_cons_succ]
                    refine takeH3 (v := ?_) (by kernel_rfl) (by kernel_rfl) (by kernel_rfl) (fun _ _ _ h => h) hHeld (by rfl) ?_ ?_
                    rotate_left; · (intro w hSw; (try dsimp only at hSw); go_simp; try with_reducible rfl)
                    try simp only [Act.put, List.setIfInBounds_toArray, List.set_cons_zero, List.set_cons_succ]
                    refine takeH4 (v := ?_) (by kernel_rfl) (by kernel_rfl) (by kernel_rfl) (fun _ _ _ h => h) hHeld (by rfl) ?_ ?_
                    rotate_left; · (intro w hSw; (try dsimp only at hSw); go_simp; try with_reducible rfl)
                    try simp only [Act.put, List.setIfInBounds_toArray, List.set_cons_zero, List.set_cons_succ]
                    refine callH5 (by kernel_rfl) (fun K hK => ?_)
                    go_simp
                    go_at_call 140
                    refine (l1ThereB _ _ _ _ _ _ _ _ _ (Nat.le_refl _) (by omega)).mono ?_; rintro e wt ⟨rfl, hbt⟩
                    rw [HTH.out]
                    have hbt2 := below_then hbt (Nat.le_refl _) (Below.drew (Below.refl wr.heap.size wr))
                    have bxt := bxr.below hbt2 bxr.lt
                    have hct := keeps_below hbt2 _ _ hcj
                    go_wp2_with fail
                    refine hK.out _ _ (⟨bxt.d0, bxt.d1, hct⟩) (fun hHeld => ?_)
                    clear hK K
                    try simp only [Act.put, List.setIfInBounds_toArray, List.set_cons_zero, List.set_cons_succ]
                    refine takeH6 (v := ?_) (by kernel_rfl) (by kernel_rfl) (by kernel_rfl) (fun _ _ _ h => h) hHeld (by rfl) ?_ ?_
                    rotate_left; · (intro w hSw; (try dsimp only at hSw); go_simp; try with_reducible rfl)
                    try simp only [Act.put, List.setIfInBounds_toArray, List.set_cons_zero, List.set_cons_succ]
                    refine takeH7 (v := ?_) (by kernel_rfl) (by kernel_rfl) (by kernel_rfl) (fun _ _ _ h => h) hHeld (by rfl) ?_ ?_
                    rotate_left; · (intro w hSw; (try dsimp only at hSw); go_simp; try with_reducible rfl)
                    try simp only [Act.put, List.setIfInBounds_toArray, List.set_cons_zero, List.set_cons_succ]
                    refine takeH8 (v := ?_) (by kernel_rfl) (by kernel_rfl) (by kernel_rfl) (fun _ _ _ h => h) hHeld (by rfl) ?_ ?_
                    rotate_left; · (intro w hSw; (try dsimp only at hSw); go_simp; try with_reducible rfl)
                    try simp only [Act.put, List.setIfInBounds_toArray, List.set_cons_zero, List.set_cons_succ]
                    refine takeH9 (v := ?_) (by kernel_rfl) (by kernel_rfl) (by kernel_rfl) (fun _ _ _ h => h) hHeld (by rfl) ?_ ?_
                    rotate_left; · (intro w hSw; (try dsimp only at hSw); go_simp; try with_reducible rfl)
                    try simp only [Act.put, List.setIfInBounds_toArray, List.set_cons_zero, List.set_cons_succ]
                    refine takeH10 (v := ?_) (by kernel_rfl) (by kernel_rfl) (by kernel_rfl) (fun _ _ _ h => h) hHeld (by rfl) ?_ ?_
                    rotate_left; · (intro w hSw; (try dsimp only at hSw); go_simp; try with_reducible rfl)
                    try simp only [Act.put, List.setIfInBounds_toArray, List.set_cons_zero, List.set_cons_succ]
                    refine skipH11 (by kernel_rfl) (by kernel_rfl) (by kernel_rfl) (fun _ _ _ h => h) hHeld (by rfl) ?_
                    try simp only [Act.put, List.setIfInBounds_toArray, List.set_cons_zero, List.set_cons_succ]
                    refine skipH12 (by kernel_rfl) (by kernel_rfl) (by kernel_rfl) (fun _ _ _ h => h) hHeld (by rfl) ?_
                    try simp only [Act.put, List.setIfInBounds_toArray, List.set_cons_zero, List.set_cons_succ]
                    refine skipH13 (by kernel_rfl) (by kernel_rfl) (by kernel_rfl) (fun _ _ _ h => h) hHeld (by rfl) ?_
                    try simp only [Act.put, List.setIfInBounds_toArray, List.set_cons_zero, List.set_cons_succ]
                    refine skipH14 (by kernel_rfl) (by kernel_rfl) (by kernel_rfl) (fun _ _ _ h => h) hHeld (by rfl) ?_
                    try simp only [Act.put, List.setIfInBounds_toArray, List.set_cons_zero, List.set_cons_succ]
                    refine skipH15 (by kernel_rfl) (by kernel_rfl) (by kernel_rfl) (fun _ _ _ h => h) hHeld (by rfl) ?_
                    try simp only [Act.put, List.setIfInBounds_toArray, List.set_cons_zero, List.set_cons_succ]
                    refine skipH16 (by kernel_rfl) (by kernel_rfl) (by kernel_rfl) (fun _ _ _ h => h) hHeld (by rfl) ?_
                    try simp only [Act.put, List.setIfInBounds_toArray, List.set_cons_zero, List.set_cons_succ]
                    refine skipH17 (by kernel_rfl) (by kernel_rfl) (by kernel_rfl) (fun _ _ _ h => h) hHeld (by rfl) ?_
                    try simp only [Act.put, List.setIfInBounds_toArray, List.set_cons_zero, List.set_cons_succ]
                    refine skipH18 (by kernel_rfl) (by kernel_rfl) (by kernel_rfl) (fun _ _ _ h => h) hHeld (by rfl) ?_
                    try simp only [Act.put, List.setIfInBounds_toArray, List.set_cons_zero, List.set_cons_succ]
                    refine skipH19 (by kernel_rfl) (by kernel_rfl) (by kernel_rfl) (fun _ _ _ h => h) hHeld (by rfl) ?_
                    try simp only [Act.put, List.setIfInBounds_toArray, List.set_cons_zero, List.set_cons_succ]
                    refine skipH20 (by kernel_rfl) (by kernel_rfl) (by kernel_rfl) (fun _ _ _ h => h) hHeld (by rfl) ?_
                    try simp only [Act.put, List.setIfInBounds_toArray, List.set_cons_zero, List.set_cons_succ]
                    refine skipH21 (by kernel_rfl) (by kernel_rfl) (by kernel_rfl) (fun _ _ _ h => h) hHeld (by rfl) ?_
                    try simp only [Act.put, List.setIfInBounds_toArray, List.set_cons_zero, List.set_cons_succ]
                    refine skipH22 (by kernel_rfl) (by kernel_rfl) (by kernel_rfl) (fun _ _ _ h => h) hHeld (by rfl) ?_
                    try simp only [Act.put, List.setIfInBounds_toArray, List.set_cons_zero, List.set_cons_succ]
                    refine skipH23 (by kernel_rfl) (by kernel_rfl) (by kernel_rfl) (fun _ _ _ h => h) hHeld (by rfl) ?_
                    try simp only [Act.put, List.setIfInBounds_toArray, List.set_cons_zero, List.set_cons_succ]
                    refine skipH24 (by kernel_rfl) (by kernel_rfl) (by kernel_rfl) (fun _ _ _ h => h) hHeld (by rfl) ?_
                    try simp only [Act.put, List.setIfInBounds_toArray, List.set_cons_zero, List.set_cons_succ]
                    refine skipH25 (by kernel_rfl) (by kernel_rfl) (by kernel_rfl) (fun _ _ _ h => h) hHeld (by rfl) ?_
                    try simp only [Act.put, List.setIfInBounds_toArray, List.set_cons_zero, List.set_cons_succ]
                    refine takeH26 (v := ?_) (by kernel_rfl) (by kernel_rfl) (by kernel_rfl) (fun _ _ _ h => h) hHeld (by rfl) ?_ ?_
                    rotate_left; · (intro w hSw; (try dsimp only at hSw); go_simp; try with_reducible rfl)
                    try simp only [Act.put, List.setIfInBounds_toArray, List.set_cons_zero, List.set_cons_succ]
                    refine takeH27 (v := ?_) (by kernel_rfl) (by kernel_rfl) (by kernel_rfl) (fun _ _ _ h => h) hHeld (by rfl) ?_ ?_
                    rotate_left; · (intro w hSw; (try dsimp only at hSw); go_simp; try with_reducible rfl)
                    try simp only [Act.put, List.setIfInBounds_toArray, List.set_cons_zero, List.set_cons_succ]
                    refine wpAnyH_done (by kernel_rfl) ?_ _
                    go_wp2
                    go_roundw
                    case rel => exact ⟨0 + 1, by omega, by go_num, all_succ HALL.out HAT.out, below_then hbt2 hbr.size hbr⟩
                    case measure => simp [intOf]; omega
                  · have hprev := HALL.out (j - 1) (by omega)
                    have hp1 := hprev.1
                    rw [HO.out] at hp1
                    obtain ⟨u, hu⟩ := Int.eq_ofNat_of_zero_le hp1.1
                    have hun : u < n1 := by have := H01.out; omega
                    have HU := Lib.hid hu
                    obtain ⟨b9', o9', e9, hcp⟩ := hr9.at_ (i := j - 1) (by omega)
                    injection e9 with e9
                    injection e9 with e91 e92
                    subst e91; subst e92
                    have hcq := keeps_below hbr _ _ hcp
                    rw [hu] at hcq
                    obtain ⟨bn, on, An, nn, cn, rfl, hcN, rn⟩ := hb.at_ hun
                    have hcn := keeps_below hwr _ _ hcN
                    have hrow := rn.keep (keeps_below hwr)
                    have e3 : ((j : Int) - 1).toNat = j - 1 := by omega
                    have hjp : (0 : Int) < (j : Int) := by omega
                    have hjn : 0 < j := by omega
                    have hjm : (j : Int) - 1 < (LL : Int) := by omega
                    have hjq : (1 : Int) ≤ (j : Int) := by omega
                    have hui : (u : Int) < (n1 : Int) := by omega
                    have hu0 : (0 : Int) ≤ (u : Int) := by omega
                    clear hu hprev hp1
                    cases hh : hasL (gl n u) (gi LA j) with
                    | false =>
                      have E := Lib.hid (HX.out j hlt (fun h => by have := h.2 (by omega); rw [HU.out, Int.toNat_natCast, hh] at this; cases this))
                      have HH := Lib.hid hh
                      clear hh
                      have ew : IntKind.i64.wrap ((j : Int) - 1) = (j : Int) - 1 := IntWalk.i64_in _ (by omega)
                      go_wp2_with fail
                      refine wp_region_held_drew (S := fun w' => w'.cell? ⟨w.heap.size, 0, none⟩ = some (.slice A0 n0 c0) ∧ w'.cell? ⟨w.heap.size, 1, none⟩ = some (.slice (some ⟨bn, on, none⟩) n1 c1) ∧ w'.cell? ⟨b9, o9 + j, none⟩ = some (.int .i64 (gi LA j)) ∧ w'.cell? ⟨b9, o9 + (j - 1), none⟩ = some (.int .i64 (u : Int)) ∧ w'.cell? ⟨bn, on + u, none⟩ = some (.slice An nn cn)) (by kernel_rfl) (⟨g0, g1, hcj, hcq, hcn⟩) (fun hHeld => ?_)
                      refine takeH0 (v := ?_) (by kernel_rfl) (by kernel_rfl) (by kernel_rfl) (fun _ _ _ h => h) hHeld (by rfl) ?_ ?_
                      rotate_left; · (intro w hSw; (try dsimp only at hSw); go_simp; try with_reducible rfl)
                      try simp only [Act.put, List.setIfInBounds_toArray, List.set_cons_zero, List.set_cons_succ]
                      refine takeH1 (v := ?_) (by kernel_rfl) (by kernel_rfl) (by kernel_rfl) (fun _ _ _ h => h) hHeld (by rfl) ?_ ?_
                      rotate_left; · (intro w hSw; (try dsimp only at hSw); go_simp; try with_reducible rfl)
                      try simp only [Act.put, List.setIfInBounds_toArray, List.set_cons_zero, List.set_cons_succ]
                      refine takeH2 (v := ?_) (by kernel_rfl) (by kernel_rfl) (by kernel_rfl) (fun _ _ _ h => h) hHeld (by rfl) ?_ ?_
                      rotate_left; · (intro w hSw; (try dsimp only at hSw); go_simp; try with_reducible rfl)
                      try simp only [Act.put, List.setIfInBounds_toArray, List.set_cons_zero, List.set_cons_succ]
                      refine takeH3 (v := ?_) (by kernel_rfl) (by kernel_rfl) (by kernel_rfl) (fun _ _ _ h => h) hHeld (by rfl) ?_ ?_
                      rotate_left; · (intro w hSw; (try dsimp only at hSw); go_simp; try with_reducible rfl)
                      try simp only [Act.put, List.setIfInBounds_toArray, List.set_cons_zero, List.set_cons_succ]
                      refine takeH4 (v := ?_) (by kernel_rfl) (by kernel_rfl) (by kernel_rfl) (fun _ _ _ h => h) hHeld (by rfl) ?_ ?_
                      rotate_left; · (intro w hSw; (try dsimp only at hSw); go_simp; try with_reducible rfl)
                      try simp only [Act.put, List.setIfInBounds_toArray, List.set_cons_zero, List.set_cons_succ]
                      refine callH5 (by kernel_rfl) (fun K hK => ?_)
                      go_simp
                      go_at_call 140
                      refine (l1ThereB _ _ _ _ _ _ _ _ _ (Nat.le_refl _) (by omega)).mono ?_; rintro e wt ⟨rfl, hbt⟩
                      rw [HTH.out]
                      have hbt2 := below_then hbt (Nat.le_refl _) (Below.drew (Below.refl wr.heap.size wr))
                      have bxt := bxr.below hbt2 bxr.lt
                      have hct := keeps_below hbt2 _ _ hcj
                      have hcqt := keeps_below hbt2 _ _ hcq
                      have hcnt := keeps_below hbt2 _ _ hcn
                      have hrt := hrow.keep (keeps_below hbt2)
                      go_wp2_with fail
                      refine hK.out _ _ (⟨bxt.d0, bxt.d1, hct, hcqt, hcnt⟩) (fun hHeld => ?_)
                      clear hK K
                      try simp only [Act.put, List.setIfInBounds_toArray, List.set_cons_zero, List.set_cons_succ]
                      refine takeH6 (v := ?_) (by kernel_rfl) (by kernel_rfl) (by kernel_rfl) (fun _ _ _ h => h) hHeld (by rfl) ?_ ?_
                      rotate_left; · (intro w hSw; (try dsimp only at hSw); go_simp; try with_reducible rfl)
                      try simp only [Act.put, List.setIfInBounds_toArray, List.set_cons_zero, List.set_cons_succ]
                      refine takeH7 (v := ?_) (by kernel_rfl) (by kernel_rfl) (by kernel_rfl) (fun _ _ _ h => h) hHeld (by rfl) ?_ ?_
                      rotate_left; · (intro w hSw; (try dsimp only at hSw); go_simp; try with_reducible rfl)
                      try simp only [Act.put, List.setIfInBounds_toArray, List.set_cons_zero, List.set_cons_succ]
                      refine takeH8 (v := ?_) (by kernel_rfl) (by kernel_rfl) (by kernel_rfl) (fun _ _ _ h => h) hHeld (by rfl) ?_ ?_
                      rotate_left; · (intro w hSw; (try dsimp only at hSw); go_simp; try with_reducible rfl)
                      try simp only [Act.put, List.setIfInBounds_toArray, List.set_cons_zero, List.set_cons_succ]
                      refine takeH9 (v := ?_) (by kernel_rfl) (by kernel_rfl) (by kernel_rfl) (fun _ _ _ h => h) hHeld (by rfl) ?_ ?_
                      rotate_left; · (intro w hSw; (try dsimp only at hSw); go_simp; try with_reducible rfl)
                      try simp only [Act.put, List.setIfInBounds_toArray, List.set_cons_zero, List.set_cons_succ]
                      refine takeH10 (v := ?_) (by kernel_rfl) (by kernel_rfl) (by kernel_rfl) (fun _ _ _ h => h) hHeld (by rfl) ?_ ?_
                      rotate_left; · (intro w hSw; (try dsimp only at hSw); go_simp; try with_reducible rfl)
                      try simp only [Act.put, List.setIfInBounds_toArray, List.set_cons_zero, List.set_cons_succ]
                      refine takeH11 (v := ?_) (by kernel_rfl) (by kernel_rfl) (by kernel_rfl) (fun _ _ _ h => h) hHeld (by rfl) ?_ ?_
                      rotate_left; · (intro w hSw; (try dsimp only at hSw); go_simp; try with_reducible rfl)
                      try simp only [Act.put, List.setIfInBounds_toArray, List.set_cons_zero, List.set_cons_succ]
                      refine takeH12 (v := ?_) (by kernel_rfl) (by kernel_rfl) (by kernel_rfl) (fun _ _ _ h => h) hHeld (by rfl) ?_ ?_
                      rotate_left; · (intro w hSw; (try dsimp only at hSw); go_simp; try with_reducible rfl)
                      try simp only [Act.put, List.setIfInBounds_toArray, List.set_cons_zero, List.set_cons_succ]
                      refine takeH13 (v := ?_) (by kernel_rfl) (by kernel_rfl) (by kernel_rfl) (fun _ _ _ h => h) hHeld (by rfl) ?_ ?_
                      rotate_left; · (intro w hSw; (try dsimp only at hSw); go_simp; try with_reducible rfl)
                      try simp only [Act.put, List.setIfInBounds_toArray, List.set_cons_zero, List.set_cons_succ]
                      refine takeH14 (v := ?_) (by kernel_rfl) (by kernel_rfl) (by kernel_rfl) (fun _ _ _ h => h) hHeld (by rfl) ?_ ?_
                      rotate_left; · (intro w hSw; (try dsimp only at hSw); go_simp; try with_reducible rfl)
                      try simp only [Act.put, List.setIfInBounds_toArray, List.set_cons_zero, List.set_cons_succ]
                      refine takeH15 (v := ?_) (by kernel_rfl) (by kernel_rfl) (by kernel_rfl) (fun _ _ _ h => h) hHeld (by rfl) ?_ ?_
                      rotate_left; · (intro w hSw; (try dsimp only at hSw); go_simp; try with_reducible rfl)
                      try simp only [Act.put, List.setIfInBounds_toArray, List.set_cons_zero, List.set_cons_succ]
                      refine takeH16 (v := ?_) (by kernel_rfl) (by kernel_rfl) (by kernel_rfl) (fun _ _ _ h => h) hHeld (by rfl) ?_ ?_
                      rotate_left; · (intro w hSw; (try dsimp only at hSw); go_simp; try with_reducible rfl)
                      try simp only [Act.put, List.setIfInBounds_toArray, List.set_cons_zero, List.set_cons_succ]
                      refine takeH17 (v := ?_) (by kernel_rfl) (by kernel_rfl) (by kernel_rfl) (fun _ _ _ h => h) hHeld (by rfl) ?_ ?_
                      rotate_left; · (intro w hSw; (try dsimp only at hSw); go_simp; try with_reducible rfl)
                      try simp only [Act.put, List.setIfInBounds_toArray, List.set_cons_zero, List.set_cons_succ]
                      refine takeH18 (v := ?_) (by kernel_rfl) (by kernel_rfl) (by kernel_rfl) (fun _ _ _ h => h) hHeld (by rfl) ?_ ?_
                      rotate_left; · (intro w hSw; (try dsimp only at hSw); go_simp; try with_reducible rfl)
                      try simp only [Act.put, List.setIfInBounds_toArray, List.set_cons_zero, List.set_cons_succ]
                      refine takeH19 (v := ?_) (by kernel_rfl) (by kernel_rfl) (by kernel_rfl) (fun _ _ _ h => h) hHeld (by rfl) ?_ ?_
                      rotate_left; · (intro w hSw; (try dsimp only at hSw); go_simp; try with_reducible rfl)
                      try simp only [Act.put, List.setIfInBounds_toArray, List.set_cons_zero, List.set_cons_succ]
                      refine takeH20 (v := ?_) (by kernel_rfl) (by kernel_rfl) (by kernel_rfl) (fun _ _ _ h => h) hHeld (by rfl) ?_ ?_
                      rotate_left; · (intro w hSw; (try dsimp only at hSw); go_simp; try with_reducible rfl)
                      try simp only [Act.put, List.setIfInBounds_toArray, List.set_cons_zero, List.set_cons_succ]
                      refine takeH21 (v := ?_) (by kernel_rfl) (by kernel_rfl) (by kernel_rfl) (fun _ _ _ h => h) hHeld (by rfl) ?_ ?_
                      rotate_left; · (intro w hSw; (try dsimp only at hSw); go_simp; try with_reducible rfl)
                      try simp only [Act.put, List.setIfInBounds_toArray, List.set_cons_zero, List.set_cons_succ]
                      refine takeH22 (v := ?_) (by kernel_rfl) (by kernel_rfl) (by kernel_rfl) (fun _ _ _ h => h) hHeld (by rfl) ?_ ?_
                      rotate_left; · (intro w hSw; (try dsimp only at hSw); go_simp; try with_reducible rfl)
                      try simp only [Act.put, List.setIfInBounds_toArray, List.set_cons_zero, List.set_cons_succ]
                      refine takeH23 (v := ?_) (by kernel_rfl) (by kernel_rfl) (by kernel_rfl) (fun _ _ _ h => h) hHeld (by rfl) ?_ ?_
                      rotate_left; · (intro w hSw; (try dsimp only at hSw); go_simp; try with_reducible rfl)
                      try simp only [Act.put, List.setIfInBounds_toArray, List.set_cons_zero, List.set_cons_succ]
                      refine callH24 (by kernel_rfl) (fun K hK => ?_)
                      go_simp
                      go_at_call 141
                      refine (l1Has _ _ _ _ _ _ hrt).mono ?_; rintro e wh ⟨rfl, qh⟩
                      rw [HH.out]
                      have hbh := below_qt qh hbt2
                      have bxh := bxr.below hbh bxr.lt
                      have h1 := keeps_below hbh _ _ hcj
                      have h2 := keeps_below hbh _ _ hcq
                      have h3 := keeps_below hbh _ _ hcn
                      go_wp2_with fail
                      refine hK.out _ _ (⟨bxh.d0, bxh.d1, h1, h2, h3⟩) (fun hHeld => ?_)
                      clear hK K
                      try simp only [Act.put, List.setIfInBounds_toArray, List.set_cons_zero, List.set_cons_succ]
                      refine takeH25 (v := ?_) (by kernel_rfl) (by kernel_rfl) (by kernel_rfl) (fun _ _ _ h => h) hHeld (by rfl) ?_ ?_
                      rotate_left; · (intro w hSw; (try dsimp only at hSw); go_simp; try with_reducible rfl)
                      try simp only [Act.put, List.setIfInBounds_toArray, List.set_cons_zero, List.set_cons_succ]
                      refine takeH26 (v := ?_) (by kernel_rfl) (by kernel_rfl) (by kernel_rfl) (fun _ _ _ h => h) hHeld (by rfl) ?_ ?_
                      rotate_left; · (intro w hSw; (try dsimp only at hSw); go_simp; try with_reducible rfl)
                      try simp only [Act.put, List.setIfInBounds_toArray, List.set_cons_zero, List.set_cons_succ]
                      refine takeH27 (v := ?_) (by kernel_rfl) (by kernel_rfl) (by kernel_rfl) (fun _ _ _ h => h) hHeld (by rfl) ?_ ?_
                      rotate_left; · (intro w hSw; (try dsimp only at hSw); go_simp; try with_reducible rfl)
                      try simp only [Act.put, List.setIfInBounds_toArray, List.set_cons_zero, List.set_cons_succ]
                      refine wpAnyH_done (by kernel_rfl) ?_ _
                      clear ew
                      go_wp2
                      go_ret
                      exact ⟨ret_b E.out.symm, (below_then hbh hwr.size hwr).mono hB⟩
                    | true =>
                      have HAT := Lib.hid (show lasAt o n LA j from ⟨by rw [HO.out]; exact hth2, fun _ => by rw [HU.out, Int.toNat_natCast]; exact hh⟩)
                      have HH := Lib.hid hh
                      clear hh
                      have ew : IntKind.i64.wrap ((j : Int) - 1) = (j : Int) - 1 := IntWalk.i64_in _ (by omega)
                      go_wp2_with fail
                      refine wp_region_held_drew (S := fun w' => w'.cell? ⟨w.heap.size, 0, none⟩ = some (.slice A0 n0 c0) ∧ w'.cell? ⟨w.heap.size, 1, none⟩ = some (.slice (some ⟨bn, on, none⟩) n1 c1) ∧ w'.cell? ⟨b9, o9 + j, none⟩ = some (.int .i64 (gi LA j)) ∧ w'.cell? ⟨b9, o9 + (j - 1), none⟩ = some (.int .i64 (u : Int)) ∧ w'.cell? ⟨bn, on + u, none⟩ = some (.slice An nn cn)) (by kernel_rfl) (⟨g0, g1, hcj, hcq, hcn⟩) (fun hHeld => ?_)
                      refine takeH0 (v := ?_) (by kernel_rfl) (by kernel_rfl) (by kernel_rfl) (fun _ _ _ h => h) hHeld (by rfl) ?_ ?_
                      rotate_left; · (intro w hSw; (try dsimp only at hSw); go_simp; try with_reducible rfl)
                      try simp only [Act.put, List.setIfInBounds_toArray, List.set_cons_zero, List.set_cons_succ]
                      refine takeH1 (v := ?_) (by kernel_rfl) (by kernel_rfl) (by kernel_rfl) (fun _ _ _ h => h) hHeld (by rfl) ?_ ?_
                      rotate_left; · (intro w hSw; (try dsimp only at hSw); go_simp; try with_reducible rfl)
                      try simp only [Act.put, List.setIfInBounds_toArray, List.set_cons_zero, List.set_cons_succ]
                      refine takeH2 (v := ?_) (by kernel_rfl) (by kernel_rfl) (by kernel_rfl) (fun _ _ _ h => h) hHeld (by rfl) ?_ ?_
                      rotate_left; · (intro w hSw; (try dsimp only at hSw); go_simp; try with_reducible rfl)
                      try simp only [Act.put, List.setIfInBounds_toArray, List.set_cons_zero, List.set_cons_succ]
                      refine takeH3 (v := ?_) (by kernel_rfl) (by kernel_rfl) (by kernel_rfl) (fun _ _ _ h => h) hHeld (by rfl) ?_ ?_
                      rotate_left; · (intro w hSw; (try dsimp only at hSw); go_simp; try with_reducible rfl)
                      try simp only [Act.put, List.setIfInBounds_toArray, List.set_cons_zero, List.set_cons_succ]
                      refine takeH4 (v := ?_) (by kernel_rfl) (by kernel_rfl) (by kernel_rfl) (fun _ _ _ h => h) hHeld (by rfl) ?_ ?_
                      rotate_left; · (intro w hSw; (try dsimp only at hSw); go_simp; try with_reducible rfl)
                      try simp only [Act.put, List.setIfInBounds_toArray, List.set_cons_zero, List.set_cons_succ]
                      refine callH5 (by kernel_rfl) (fun K hK => ?_)
                      go_simp
                      go_at_call 140
                      refine (l1ThereB _ _ _ _ _ _ _ _ _ (Nat.le_refl _) (by omega)).mono ?_; rintro e wt ⟨rfl, hbt⟩
                      rw [HTH.out]
                      have hbt2 := below_then hbt (Nat.le_refl _) (Below.drew (Below.refl wr.heap.size wr))
                      have bxt := bxr.below hbt2 bxr.lt
                      have hct := keeps_below hbt2 _ _ hcj
                      have hcqt := keeps_below hbt2 _ _ hcq
                      have hcnt := keeps_below hbt2 _ _ hcn
                      have hrt := hrow.keep (keeps_below hbt2)
                      go_wp2_with fail
                      refine hK.out _ _ (⟨bxt.d0, bxt.d1, hct, hcqt, hcnt⟩) (fun hHeld => ?_)
                      clear hK K
                      try simp only [Act.put, List.setIfInBounds_toArray, List.set_cons_zero, List.set_cons_succ]
                      refine takeH6 (v := ?_) (by kernel_rfl) (by kernel_rfl) (by kernel_rfl) (fun _ _ _ h => h) hHeld (by rfl) ?_ ?_
                      rotate_left; · (intro w hSw; (try dsimp only at hSw); go_simp; try with_reducible rfl)
                      try simp only [Act.put, List.setIfInBounds_toArray, List.set_cons_zero, List.set_cons_succ]
                      refine takeH7 (v := ?_) (by kernel_rfl) (by kernel_rfl) (by kernel_rfl) (fun _ _ _ h => h) hHeld (by rfl) ?_ ?_
                      rotate_left; · (intro w hSw; (try dsimp only at hSw); go_simp; try with_reducible rfl)
                      try simp only [Act.put, List.setIfInBounds_toArray, List.set_cons_zero, List.set_cons_succ]
                      refine takeH8 (v := ?_) (by kernel_rfl) (by kernel_rfl) (by kernel_rfl) (fun _ _ _ h => h) hHeld (by rfl) ?_ ?_
                      rotate_left; · (intro w hSw; (try dsimp only at hSw); go_simp; try with_reducible rfl)
                      try simp only [Act.put, List.setIfInBounds_toArray, List.set_cons_zero, List.set_cons_succ]
                      refine takeH9 (v := ?_) (by kernel_rfl) (by kernel_rfl) (by kernel_rfl) (fun _ _ _ h => h) hHeld (by rfl) ?_ ?_
                      rotate_left; · (intro w hSw; (try dsimp only at hSw); go_simp; try with_reducible rfl)
                      try simp only [Act.put, List.setIfInBounds_toArray, List.set_cons_zero, List.set_cons_succ]
                      refine takeH10 (v := ?_) (by kernel_rfl) (by kernel_rfl) (by kernel_rfl) (fun _ _ _ h => h) hHeld (by rfl) ?_ ?_
                      rotate_left; · (intro w hSw; (try dsimp only at hSw); go_simp; try with_reducible rfl)
                      try simp only [Act.put, List.setIfInBounds_toArray, List.set_cons_zero, List.set_cons_succ]
                      refine takeH11 (v := ?_) (by kernel_rfl) (by kernel_rfl) (by kernel_rfl) (fun _ _ _ h => h) hHeld (by rfl) ?_ ?_
                      rotate_left; · (intro w hSw; (try dsimp only at hSw); go_simp; try with_reducible rfl)
                      try simp only [Act.put, List.setIfInBounds_toArray, List.set_cons_zero, List.set_cons_succ]
                      refine takeH12 (v := ?_) (by kernel_rfl) (by kernel_rfl) (by kernel_rfl) (fun _ _ _ h => h) hHeld (by rfl) ?_ ?_
                      rotate_left; · (intro w hSw; (try dsimp only at hSw); go_simp; try with_reducible rfl)
                      try simp only [Act.put, List.setIfInBounds_toArray, List.set_cons_zero, List.set_cons_succ]
                      refine takeH13 (v := ?_) (by kernel_rfl) (by kernel_rfl) (by kernel_rfl) (fun _ _ _ h => h) hHeld (by rfl) ?_ ?_
                      rotate_left; · (intro w hSw; (try dsimp only at hSw); go_simp; try with_reducible rfl)
                      try simp only [Act.put, List.setIfInBounds_toArray, List.set_cons_zero, List.set_cons_succ]
                      refine takeH14 (v := ?_) (by kernel_rfl) (by kernel_rfl) (by kernel_rfl) (fun _ _ _ h => h) hHeld (by rfl) ?_ ?_
                      rotate_left; · (intro w hSw; (try dsimp only at hSw); go_simp; try with_reducible rfl)
                      try simp only [Act.put, List.setIfInBounds_toArray, List.set_cons_zero, List.set_cons_succ]
                      refine takeH15 (v := ?_) (by kernel_rfl) (by kernel_rfl) (by kernel_rfl) (fun _ _ _ h => h) hHeld (by rfl) ?_ ?_
                      rotate_left; · (intro w hSw; (try dsimp only at hSw); go_simp; try with_reducible rfl)
                      try simp only [Act.put, List.setIfInBounds_toArray, List.set_cons_zero, List.set_cons_succ]
                      refine takeH16 (v := ?_) (by kernel_rfl) (by kernel_rfl) (by kernel_rfl) (fun _ _ _ h => h) hHeld (by rfl) ?_ ?_
                      rotate_left; · (intro w hSw; (try dsimp only at hSw); go_simp; try with_reducible rfl)
                      try simp only [Act.put, List.setIfInBounds_toArray, List.set_cons_zero, List.set_cons_succ]
                      refine takeH17 (v := ?_) (by kernel_rfl) (by kernel_rfl) (by kernel_rfl) (fun _ _ _ h => h) hHeld (by rfl) ?_ ?_
                      rotate_left; · (intro w hSw; (try dsimp only at hSw); go_simp; try with_reducible rfl)
                      try simp only [Act.put, List.setIfInBounds_toArray, List.set_cons_zero, List.set_cons_succ]
                      refine takeH18 (v := ?_) (by kernel_rfl) (by kernel_rfl) (by kernel_rfl) (fun _ _ _ h => h) hHeld (by rfl) ?_ ?_
                      rotate_left; · (intro w hSw; (try dsimp only at hSw); go_simp; try with_reducible rfl)
                      try simp only [Act.put, List.setIfInBounds_toArray, List.set_cons_zero, List.set_cons_succ]
                      refine takeH19 (v := ?_) (by kernel_rfl) (by kernel_rfl) (by kernel_rfl) (fun _ _ _ h => h) hHeld (by rfl) ?_ ?_
                      rotate_left; · (intro w hSw; (try dsimp only at hSw); go_simp; try with_reducible rfl)
                      try simp only [Act.put, List.setIfInBounds_toArray, List.set_cons_zero, List.set_cons_succ]
                      refine takeH20 (v := ?_) (by kernel_rfl) (by kernel_rfl) (by kernel_rfl) (fun _ _ _ h => h) hHeld (by rfl) ?_ ?_
                      rotate_left; · (intro w hSw; (try dsimp only at hSw); go_simp; try with_reducible rfl)
                      try simp only [Act.put, List.setIfInBounds_toArray, List.set_cons_zero, List.set_cons_succ]
                      refine takeH21 (v := ?_) (by kernel_rfl) (by kernel_rfl) (by kernel_rfl) (fun _ _ _ h => h) hHeld (by rfl) ?_ ?_
                      rotate_left; · (intro w hSw; (try dsimp only at hSw); go_simp; try with_reducible rfl)
                      try simp only [Act.put, List.setIfInBounds_toArray, List.set_cons_zero, List.set_cons_succ]
                      refine takeH22 (v := ?_) (by kernel_rfl) (by kernel_rfl) (by kernel_rfl) (fun _ _ _ h => h) hHeld (by rfl) ?_ ?_
                      rotate_left; · (intro w hSw; (try dsimp only at hSw); go_simp; try with_reducible rfl)
                      try simp only [Act.put, List.setIfInBounds_toArray, List.set_cons_zero, List.set_cons_succ]
                      refine takeH23 (v := ?_) (by kernel_rfl) (by kernel_rfl) (by kernel_rfl) (fun _ _ _ h => h) hHeld (by rfl) ?_ ?_
                      rotate_left; · (intro w hSw; (try dsimp only at hSw); go_simp; try with_reducible rfl)
                      try simp only [Act.put, List.setIfInBounds_toArray, List.set_cons_zero, List.set_cons_succ]
                      refine callH24 (by kernel_rfl) (fun K hK => ?_)
                      go_simp
                      go_at_call 141
                      refine (l1Has _ _ _ _ _ _ hrt).mono ?_; rintro e wh ⟨rfl, qh⟩
                      rw [HH.out]
                      have hbh := below_qt qh hbt2
                      have bxh := bxr.below hbh bxr.lt
                      have h1 := keeps_below hbh _ _ hcj
                      have h2 := keeps_below hbh _ _ hcq
                      have h3 := keeps_below hbh _ _ hcn
                      go_wp2_with fail
                      refine hK.out _ _ (⟨bxh.d0, bxh.d1, h1, h2, h3⟩) (fun hHeld => ?_)
                      clear hK K
                      try simp only [Act.put, List.setIfInBounds_toArray, List.set_cons_zero, List.set_cons_succ]
                      refine takeH25 (v := ?_) (by kernel_rfl) (by kernel_rfl) (by kernel_rfl) (fun _ _ _ h => h) hHeld (by rfl) ?_ ?_
                      rotate_left; · (intro w hSw; (try dsimp only at hSw); go_simp; try with_reducible rfl)
                      try simp only [Act.put, List.setIfInBounds_toArray, List.set_cons_zero, List.set_cons_succ]
                      refine takeH26 (v := ?_) (by kernel_rfl) (by kernel_rfl) (by kernel_rfl) (fun _ _ _ h => h) hHeld (by rfl) ?_ ?_
                      rotate_left; · (intro w hSw; (try dsimp only at hSw); go_simp; try with_reducible rfl)
                      try simp only [Act.put, List.setIfInBounds_toArray, List.set_cons_zero, List.set_cons_succ]
                      refine takeH27 (v := ?_) (by kernel_rfl) (by kernel_rfl) (by kernel_rfl) (fun _ _ _ h => h) hHeld (by rfl) ?_ ?_
                      rotate_left; · (intro w hSw; (try dsimp only at hSw); go_simp; try with_reducible rfl)
                      try simp only [Act.put, List.setIfInBounds_toArray, List.set_cons_zero, List.set_cons_succ]
                      refine wpAnyH_done (by kernel_rfl) ?_ _
                      clear ew
                      go_wp2
                      go_roundw
                      case rel => exact ⟨j + 1, by omega, by go_num, all_succ HALL.out HAT.out, below_then hbh hbr.size hbr⟩
                      case measure => simp [intOf]; omega
              · obtain rfl : j = LL := by omega
                have E := Lib.hid (HE.out HALL.out)
                go_wp2
                go_ret
                exact ⟨ret_b E.out.symm, hwr.mono hB⟩
        · have E := Lib.hid (show lasB o n z = false by rw [EB.out]; exact lasE_len (by rw [HM.out, HK.out]; omega))
          go_enter Try.func153, Try.ntmps153
          go_wp2_with fail
          refine (specArenaOk _ _ _ _ _ _ o n _ _ (Nat.le_refl _) (ha.keep (keeps_below hba)) (hb.keep (keeps_below hba))).mono ?_; rintro e w1 ⟨rfl, hb1⟩
          rw [HAR.out]
          have hw1 := below_then hb1 hba.size hba
          replace bl := bl.below hb1 bl.lt
          clear q0 q1 p0 p1
          have p0 := bl.d0; have p1 := bl.d1
          go_wp2
          go_ret
          exact ⟨ret_b E.out.symm, hw1.mono hB⟩
      · have E := Lib.hid (show lasB o n z = false by rw [EB.out]; exact lasE_len (by rw [HM.out, HK.out]; omega))
        go_enter Try.func153, Try.ntmps153
        go_wp2_with fail
        refine (specArenaOk _ _ _ _ _ _ o n _ _ (Nat.le_refl _) (ha.keep (keeps_below hba)) (hb.keep (keeps_below hba))).mono ?_; rintro e w1 ⟨rfl, hb1⟩
        rw [HAR.out]
        have hw1 := below_then hb1 hba.size hba
        replace bl := bl.below hb1 bl.lt
        clear q0 q1 p0 p1
        have p0 := bl.d0; have p1 := bl.d1
        go_wp2
        go_ret
        exact ⟨ret_b E.out.symm, hw1.mono hB⟩
    · have E := Lib.hid (show lasB o n z = false by rw [EB.out]; exact lasE_len (by rw [HM.out, HK.out]; omega))
      go_enter Try.func153, Try.ntmps153
      go_wp2_with fail
      refine (specArenaOk _ _ _ _ _ _ o n _ _ (Nat.le_refl _) (ha.keep (keeps_below hba)) (hb.keep (keeps_below hba))).mono ?_; rintro e w1 ⟨rfl, hb1⟩
      rw [HAR.out]
      have hw1 := below_then hb1 hba.size hba
      replace bl := bl.below hb1 bl.lt
      clear q0 q1 p0 p1
      have p0 := bl.d0; have p1 := bl.d1
      go_wp2
      go_ret
      exact ⟨ret_b E.out.symm, hw1.mono hB⟩
end Go.Proofs.Ytefjhkcafcchlaa
