/- DiceGame, impl. -/
import Derived.Test.YtefjhkcafcchlaaDiceG
import Derived.Test.YtefjhkcafcchlaaParP
import Derived.Test.YtefjhkcafcchlaaSort
import Derived.Test.YtefjhkcafcchlaaHand
import Derived.Test.YtefjhkcafcchlaaCut
import Derived.Deep.DeepCutAuto
namespace Go.Proofs.Ytefjhkcafcchlaa
open Go.RowKit

theorem twoH_2_4 {P : Program} {Q : Exit → Act → World → Prop} {md : Region.Mode} {S : World → Prop} {fuel : Nat} {listed : Array Bool} {a : Act} {w : World} {o0 o1 o2 o3 o4 : Oper} {r : List Oper} (hr : Region.ready md (List.toArray (o0 :: o1 :: o2 :: o3 :: o4 :: r)) listed = [2, 4])
    (h1 : ∀ K' : Act → World → Prop, Shut (∀ a w, S w → (S w → wpAnyH P md (List.toArray (o0 :: o1 :: o2 :: o3 :: o4 :: r)) Q S fuel (listed.setIfInBounds 2 true) a w) → K' a w) → if Region.wanted o2 (yielded (List.toArray (o0 :: o1 :: o2 :: o3 :: o4 :: r)) a.tmps) = true then Oper.wp P o2 a w K' Q else K' (a.put o2.dst undef) w) (h2 : ∀ K' : Act → World → Prop, Shut (∀ a w, S w → (S w → wpAnyH P md (List.toArray (o0 :: o1 :: o2 :: o3 :: o4 :: r)) Q S fuel (listed.setIfInBounds 4 true) a w) → K' a w) → if Region.wanted o4 (yielded (List.toArray (o0 :: o1 :: o2 :: o3 :: o4 :: r)) a.tmps) = true then Oper.wp P o4 a w K' Q else K' (a.put o4.dst undef) w) : wpAnyH P md (List.toArray (o0 :: o1 :: o2 :: o3 :: o4 :: r)) Q S (fuel + 1) listed a w :=
  wpAnyH_ready (rs := [2, 4]) hr (by simp) (AllReadyH.cons rfl h1 (AllReadyH.cons rfl h2 AllReadyH.nil))
theorem twoH_1_4 {P : Program} {Q : Exit → Act → World → Prop} {md : Region.Mode} {S : World → Prop} {fuel : Nat} {listed : Array Bool} {a : Act} {w : World} {o0 o1 o2 o3 o4 : Oper} {r : List Oper} (hr : Region.ready md (List.toArray (o0 :: o1 :: o2 :: o3 :: o4 :: r)) listed = [1, 4])
    (h1 : ∀ K' : Act → World → Prop, Shut (∀ a w, S w → (S w → wpAnyH P md (List.toArray (o0 :: o1 :: o2 :: o3 :: o4 :: r)) Q S fuel (listed.setIfInBounds 1 true) a w) → K' a w) → if Region.wanted o1 (yielded (List.toArray (o0 :: o1 :: o2 :: o3 :: o4 :: r)) a.tmps) = true then Oper.wp P o1 a w K' Q else K' (a.put o1.dst undef) w) (h2 : ∀ K' : Act → World → Prop, Shut (∀ a w, S w → (S w → wpAnyH P md (List.toArray (o0 :: o1 :: o2 :: o3 :: o4 :: r)) Q S fuel (listed.setIfInBounds 4 true) a w) → K' a w) → if Region.wanted o4 (yielded (List.toArray (o0 :: o1 :: o2 :: o3 :: o4 :: r)) a.tmps) = true then Oper.wp P o4 a w K' Q else K' (a.put o4.dst undef) w) : wpAnyH P md (List.toArray (o0 :: o1 :: o2 :: o3 :: o4 :: r)) Q S (fuel + 1) listed a w :=
  wpAnyH_ready (rs := [1, 4]) hr (by simp) (AllReadyH.cons rfl h1 (AllReadyH.cons rfl h2 AllReadyH.nil))
theorem twoH_1_5 {P : Program} {Q : Exit → Act → World → Prop} {md : Region.Mode} {S : World → Prop} {fuel : Nat} {listed : Array Bool} {a : Act} {w : World} {o0 o1 o2 o3 o4 o5 : Oper} {r : List Oper} (hr : Region.ready md (List.toArray (o0 :: o1 :: o2 :: o3 :: o4 :: o5 :: r)) listed = [1, 5])
    (h1 : ∀ K' : Act → World → Prop, Shut (∀ a w, S w → (S w → wpAnyH P md (List.toArray (o0 :: o1 :: o2 :: o3 :: o4 :: o5 :: r)) Q S fuel (listed.setIfInBounds 1 true) a w) → K' a w) → if Region.wanted o1 (yielded (List.toArray (o0 :: o1 :: o2 :: o3 :: o4 :: o5 :: r)) a.tmps) = true then Oper.wp P o1 a w K' Q else K' (a.put o1.dst undef) w) (h2 : ∀ K' : Act → World → Prop, Shut (∀ a w, S w → (S w → wpAnyH P md (List.toArray (o0 :: o1 :: o2 :: o3 :: o4 :: o5 :: r)) Q S fuel (listed.setIfInBounds 5 true) a w) → K' a w) → if Region.wanted o5 (yielded (List.toArray (o0 :: o1 :: o2 :: o3 :: o4 :: o5 :: r)) a.tmps) = true then Oper.wp P o5 a w K' Q else K' (a.put o5.dst undef) w) : wpAnyH P md (List.toArray (o0 :: o1 :: o2 :: o3 :: o4 :: o5 :: r)) Q S (fuel + 1) listed a w :=
  wpAnyH_ready (rs := [1, 5]) hr (by simp) (AllReadyH.cons rfl h1 (AllReadyH.cons rfl h2 AllReadyH.nil))
theorem twoH_2_5 {P : Program} {Q : Exit → Act → World → Prop} {md : Region.Mode} {S : World → Prop} {fuel : Nat} {listed : Array Bool} {a : Act} {w : World} {o0 o1 o2 o3 o4 o5 : Oper} {r : List Oper} (hr : Region.ready md (List.toArray (o0 :: o1 :: o2 :: o3 :: o4 :: o5 :: r)) listed = [2, 5])
    (h1 : ∀ K' : Act → World → Prop, Shut (∀ a w, S w → (S w → wpAnyH P md (List.toArray (o0 :: o1 :: o2 :: o3 :: o4 :: o5 :: r)) Q S fuel (listed.setIfInBounds 2 true) a w) → K' a w) → if Region.wanted o2 (yielded (List.toArray (o0 :: o1 :: o2 :: o3 :: o4 :: o5 :: r)) a.tmps) = true then Oper.wp P o2 a w K' Q else K' (a.put o2.dst undef) w) (h2 : ∀ K' : Act → World → Prop, Shut (∀ a w, S w → (S w → wpAnyH P md (List.toArray (o0 :: o1 :: o2 :: o3 :: o4 :: o5 :: r)) Q S fuel (listed.setIfInBounds 5 true) a w) → K' a w) → if Region.wanted o5 (yielded (List.toArray (o0 :: o1 :: o2 :: o3 :: o4 :: o5 :: r)) a.tmps) = true then Oper.wp P o5 a w K' Q else K' (a.put o5.dst undef) w) : wpAnyH P md (List.toArray (o0 :: o1 :: o2 :: o3 :: o4 :: o5 :: r)) Q S (fuel + 1) listed a w :=
  wpAnyH_ready (rs := [2, 5]) hr (by simp) (AllReadyH.cons rfl h1 (AllReadyH.cons rfl h2 AllReadyH.nil))

theorem set_puts (xs : List Int) : compL (sortL xs) = putsL xs := by
  obtain ⟨c1, c2⟩ := comp_asc (sortL_pair xs)
  obtain ⟨p1, p2⟩ := putsL_asc xs
  exact asc_ext c1 p1 fun z => by rw [c2, sortL_mem, p2]

set_option maxRecDepth 100000 in
set_option maxHeartbeats 3200000 in
theorem implDice (s n p o : Int) (w : World) (B : Nat) (hB : B ≤ w.heap.size) :
    Calls Try.prog 43 #[.int .i64 s, .int .i64 n, .int .i64 p, .int .i64 o] w fun e w' => ∃ s0 s1 s2, e = .returned (.tuple #[.agg #[s0, s1, s2], .bool (okDice n p o)]) ∧ OPar w' B s0 s1 s2 (diceP s n p o) ∧ Below B w w' := by
  have fx := (Box.new w 44 #[.slice none 0 0, .slice none 0 0, .slice none 0 0]).set3 (.slice none 0 0) (.slice none 0 0) (.slice none 0 0)
  have R0 := fx.c0
  have R1 := fx.c1
  have R2 := fx.c2
  by_cases hn1 : n < 1
  · have hE := Lib.hid (show okDice n p o = false by
      unfold okDice inR
      simp
      omega)
    go_enter Try.func43, Try.ntmps43
    go_wp2
    refine bodyPost_ret (v := .tuple #[.agg #[.slice none 0 0, .slice none 0 0, .slice none 0 0], .bool false]) (by simp [results, Try.results43, go_sem, R0, R1, R2]) rfl ⟨_, _, _, by rw [hE.out], by rw [diceP_no hE.out]; exact OPar.nil _ _, below_alloc hB (Below.refl _ _)⟩
  by_cases hn2 : 256 < n
  · have hE := Lib.hid (show okDice n p o = false by
      unfold okDice inR
      simp
      omega)
    go_enter Try.func43, Try.ntmps43
    go_wp2
    refine bodyPost_ret (v := .tuple #[.agg #[.slice none 0 0, .slice none 0 0, .slice none 0 0], .bool false]) (by simp [results, Try.results43, go_sem, R0, R1, R2]) rfl ⟨_, _, _, by rw [hE.out], by rw [diceP_no hE.out]; exact OPar.nil _ _, below_alloc hB (Below.refl _ _)⟩
  by_cases hp1 : p < 1
  · have hE := Lib.hid (show okDice n p o = false by
      unfold okDice inR
      simp
      omega)
    go_enter Try.func43, Try.ntmps43
    go_wp2
    refine bodyPost_ret (v := .tuple #[.agg #[.slice none 0 0, .slice none 0 0, .slice none 0 0], .bool false]) (by simp [results, Try.results43, go_sem, R0, R1, R2]) rfl ⟨_, _, _, by rw [hE.out], by rw [diceP_no hE.out]; exact OPar.nil _ _, below_alloc hB (Below.refl _ _)⟩
  by_cases hp2 : 41 < p
  · have hE := Lib.hid (show okDice n p o = false by
      unfold okDice inR
      simp
      omega)
    go_enter Try.func43, Try.ntmps43
    go_wp2
    refine bodyPost_ret (v := .tuple #[.agg #[.slice none 0 0, .slice none 0 0, .slice none 0 0], .bool false]) (by simp [results, Try.results43, go_sem, R0, R1, R2]) rfl ⟨_, _, _, by rw [hE.out], by rw [diceP_no hE.out]; exact OPar.nil _ _, below_alloc hB (Below.refl _ _)⟩
  by_cases ho1 : o < 1
  · have hE := Lib.hid (show okDice n p o = false by
      unfold okDice inR
      simp
      omega)
    go_enter Try.func43, Try.ntmps43
    go_wp2
    refine bodyPost_ret (v := .tuple #[.agg #[.slice none 0 0, .slice none 0 0, .slice none 0 0], .bool false]) (by simp [results, Try.results43, go_sem, R0, R1, R2]) rfl ⟨_, _, _, by rw [hE.out], by rw [diceP_no hE.out]; exact OPar.nil _ _, below_alloc hB (Below.refl _ _)⟩
  by_cases ho2 : 16 < o
  · have hE := Lib.hid (show okDice n p o = false by
      unfold okDice inR
      simp
      omega)
    go_enter Try.func43, Try.ntmps43
    go_wp2
    refine bodyPost_ret (v := .tuple #[.agg #[.slice none 0 0, .slice none 0 0, .slice none 0 0], .bool false]) (by simp [results, Try.results43, go_sem, R0, R1, R2]) rfl ⟨_, _, _, by rw [hE.out], by rw [diceP_no hE.out]; exact OPar.nil _ _, below_alloc hB (Below.refl _ _)⟩
  replace hn1 : 1 ≤ n := by omega
  replace hn2 : n ≤ 256 := by omega
  replace hp1 : 1 ≤ p := by omega
  replace hp2 : p ≤ 41 := by omega
  replace ho1 : 1 ≤ o := by omega
  replace ho2 : o ≤ 16 := by omega
  clear fx R0 R1 R2
  obtain ⟨N, rfl⟩ := Int.eq_ofNat_of_zero_le (show 0 ≤ n by omega)
  have hE := Lib.hid (show okDice N p o = true by
    unfold okDice inR
    rw [decide_eq_true ⟨hn1, hn2⟩, decide_eq_true ⟨hp1, hp2⟩, decide_eq_true ⟨ho1, ho2⟩]; rfl)
  have hsd := seed_tmod s
  have hs1 := hsd.1; have hs2 := hsd.2
  have SI := Lib.hid (seed_in s)
  have hcf := drawFn_enter
  clear hsd
  go_enter Try.func43, Try.ntmps43
  go_wp2
  rw [show (s.tmod 999999937 + 999999937) % 999999937 = s.tmod 999999937 % 999999937 by omega]
  go_loopw [44] (fun i wr => ∃ (k : Nat) (s0 s1 s2 : Value), k ≤ N ∧ i = .int .i64 k ∧ GSx (w.heap.size + 3) w wr w.heap.size (w.heap.size + 1 + 1) s0 s1 s2 (diceUp (seedD s) N p o k).1 ∧ Box wr (w.heap.size + 1) 2 #[.int .i64 (diceUp (seedD s) N p o k).2]) (fun i _ => N - (intOf i).toNat)
  case atStart =>
    have S1 : Below w.heap.size w (((w.alloc (.cells #[.slice none 0 0, .slice none 0 0, .slice none 0 0] 44)).alloc (.cells #[.int .i64 (seedD s)] 2)).alloc (.cells #[.slice none 0 0, .slice none 0 0, .slice none 0 0] 44)) := below_alloc (Nat.le_refl _) (below_alloc (Nat.le_refl _) (below_alloc (Nat.le_refl _) (Below.refl _ _)))
    exact ⟨0, _, _, _, Nat.zero_le _, rfl, ⟨S1, by simp, ⟨Nat.le_refl _, by omega, by omega⟩, ((Box.new _ _ _).alloc _).alloc _, Box.new' (by simp), OPar.nil _ _⟩, (Box.new' (by simp)).alloc _⟩
  case round =>
    obtain ⟨k, s0, s1, s2, hk, rfl, hst, hbx⟩ := hrel
    obtain ⟨A0, c0, A1, c1, A2, c2, rfl, rfl, rfl⟩ := hst.own.form
    have hDin : inD (diceUp (seedD s) N p o k).2 := diceUp_in SI.out k
    have hln := diceUp_len (seedD s) N p o k
    by_cases hlt : k < N
    · have hki : (k : Int) < (N : Int) := by omega
      have HS := Lib.hid (show diceUp (seedD s) N p o (k + 1) = (addV (diceUp (seedD s) N p o k).1 (nxD (diceUp (seedD s) N p o k).2 % 2) (nxD (nxD (diceUp (seedD s) N p o k).2) % p) (putsL (drD (nxD (nxD (nxD (diceUp (seedD s) N p o k).2))) N (cntD (diceUp (seedD s) N p o k).2 o))), stD (nxD (nxD (nxD (diceUp (seedD s) N p o k).2))) (cntD (diceUp (seedD s) N p o k).2 o)) from rfl)
      generalize diceUp (seedD s) N p o k = D at *
      have hcq : nxD (nxD (nxD D.2)) % o + 1 = (cntD D.2 o : Int) := cntD_eq ho1
      have hcl := cntD_le (s := D.2) ⟨ho1, ho2⟩
      generalize cntD D.2 o = c at *
      obtain ⟨c, rfl⟩ : ∃ c', c = c' + 1 := ⟨c - 1, by omega⟩
      have HCQ := Lib.hid (show nxD (nxD (nxD D.2)) % o = (c : Int) by omega)
      have hl0 : D.1.1.length ≤ 256 := by have := hln.1; omega
      have hl1 : D.1.2.1.length ≤ 256 := by have := hln.2.1; omega
      have hl2 : D.1.2.2.length ≤ 256 := by have := hln.2.2; omega
      clear hcq hln
      have q0 := hst.c0
      go_wp2_with fail
      go_upto_region 8 with (fail)
      go_cut [] (fun wx => Hid (∃ (A6 : Option Addr) (c6 : Nat), GSx (w.heap.size + 3) w wx w.heap.size (w.heap.size + 1 + 1) (.slice A6 (D.1.1.length + 1) c6) (.slice A1 D.1.2.1.length c1) (.slice A2 D.1.2.2.length c2) (D.1.1 ++ [nxD D.2 % 2], D.1.2.1, D.1.2.2) ∧ Box wx (w.heap.size + 1) 2 #[.int .i64 (nxD D.2)]))
      case first =>
        refine wp_region_held_drew (S := fun _ => True) (by kernel_rfl) trivial (fun hHeld => ?_)
        replace hst := hst.move (Below.drew (Below.refl wr.heap.size wr))
        replace hbx : Box wr.drew _ _ _ := hbx
        generalize wr.drew = wD at *
        have q0 := hst.c0
        refine takeH0 (v := ?_) (by kernel_rfl) (by kernel_rfl) (by kernel_rfl) (fun _ _ _ h => h) hHeld (by rfl) ?_ ?_
        rotate_left; · (intro w hSw; (try dsimp only at hSw); go_simp; try with_reducible rfl)
        try simp only [Act.put, List.setIfInBounds_toArray, List.set_cons_zero, List.set_cons_succ]
        refine takeH1 (v := ?_) (by kernel_rfl) (by kernel_rfl) (by kernel_rfl) (fun _ _ _ h => h) hHeld (by rfl) ?_ ?_
        rotate_left; · (intro w hSw; (try dsimp only at hSw); go_simp; try with_reducible rfl)
        try simp only [Act.put, List.setIfInBounds_toArray, List.set_cons_zero, List.set_cons_succ]
        refine takeH3 (v := ?_) (by kernel_rfl) (by kernel_rfl) (by kernel_rfl) (fun _ _ _ h => h) hHeld (by rfl) ?_ ?_
        rotate_left; · (intro w hSw; (try dsimp only at hSw); go_simp; try with_reducible rfl)
        try simp only [Act.put, List.setIfInBounds_toArray, List.set_cons_zero, List.set_cons_succ]
        refine twoH_2_4 (by kernel_rfl) (fun K hK => ?_) (fun K hK => ?_)
        · go_simp
          refine hK.out _ _ (trivial) (fun hHeld => ?_)
          clear hK K
          try simp only [Act.put, List.setIfInBounds_toArray, List.set_cons_zero, List.set_cons_succ]
          refine callH4 (by kernel_rfl) (fun K hK => ?_)
          go_simp
          go_at_call 111
          refine (drawFn _ _ _ _ hbx hDin (by omega) (by omega)).mono ?_; rintro e wa ⟨rfl, hbxa, hca⟩
          have hsta := hst.tick hca (by omega) (by omega) (by omega) (by omega)
          have qa := hsta.c0
          have hza := hsta.size
          go_wp2_with fail
          refine hK.out _ _ (trivial) (fun hHeld => ?_)
          clear hK K
          try simp only [Act.put, List.setIfInBounds_toArray, List.set_cons_zero, List.set_cons_succ]
          refine callH5 (by kernel_rfl) (fun K hK => ?_)
          go_simp
          refine hK.out _ _ (trivial) (fun hHeld => ?_)
          clear hK K
          try simp only [Act.put, List.setIfInBounds_toArray, List.set_cons_zero, List.set_cons_succ]
          refine callH6 (by kernel_rfl) (fun K hK => ?_)
          have hbA : Below wa.heap.size wa (wa.alloc (.cells #[.int .i64 (nxD D.2 % 2)] 2)) := below_alloc (Nat.le_refl _) (Below.refl _ _)
          have hstA := hsta.move hbA
          have hbxA := hbxa.below hbA hbxa.lt
          have hq1 : RI (wa.alloc (.cells #[.int .i64 (nxD D.2 % 2)] 2)) (some ⟨wa.heap.size, 0, none⟩) 1 1 [(nxD D.2 % 2)] := RI.one1 ((Box.new wa 2 #[.int .i64 (nxD D.2 % 2)]).cell 0)
          refine step_of_list (by rfl) (wp_appI (.tmp 48) (.tmp 51) (by rfl) (wa.alloc (.cells #[.int .i64 (nxD D.2 % 2)] 2)) (w.heap.size + 3) (.slice A0 D.1.1.length c0) D.1.1 (by rfl) hstA.own.row0 (some ⟨wa.heap.size, 0, none⟩) 1 1 [(nxD D.2 % 2)] (by rfl) hq1 (by omega) (by omega) hstA.size ?_)
          intro v6 w6 ho6 hb6 hc6 hat6
          obtain ⟨A6, c6, h1e⟩ := ho6.form
          have h1f : v6 = .slice A6 (D.1.1.length + 1) c6 := by rw [h1e]; simp
          clear h1e
          subst h1f
          have ho7 := hstA.own.set0 hc6 ho6 hat6
          have hbx6 := hbxA.below hb6 (by omega)
          obtain ⟨_, bg6, _, _⟩ := hstA.call hb6
          have q6 := bg6.c0
          have f6 := bg6.hot 0
          refine hK.out _ _ (trivial) (fun hHeld => ?_)
          clear hK K
          try simp only [Act.put, List.setIfInBounds_toArray, List.set_cons_zero, List.set_cons_succ]
          refine takeH7 (v := ?_) (by kernel_rfl) (by kernel_rfl) (by kernel_rfl) (fun _ _ _ h => h) hHeld (by rfl) ?_ ?_
          rotate_left; · (intro w hSw; (try dsimp only at hSw); go_simp; try with_reducible rfl)
          try simp only [Act.put, List.setIfInBounds_toArray, List.set_cons_zero, List.set_cons_succ]
          refine takeH8 (v := ?_) (by kernel_rfl) (by kernel_rfl) (by kernel_rfl) (fun _ _ _ h => h) hHeld (by rfl) ?_ ?_
          rotate_left; · (intro w hSw; (try dsimp only at hSw); go_simp; try with_reducible rfl)
          try simp only [Act.put, List.setIfInBounds_toArray, List.set_cons_zero, List.set_cons_succ]
          refine callH9 (by kernel_rfl) (fun K hK => ?_)
          go_simp
          refine hK.out _ _ (trivial) (fun hHeld => ?_)
          clear hK K
          try simp only [Act.put, List.setIfInBounds_toArray, List.set_cons_zero, List.set_cons_succ]
          refine wpAnyH_done (by kernel_rfl) ?_ _
          have st7 := hstA.step0 hb6 ho7
          have hbx7 := hbx6.far (p := ⟨w.heap.size + 1 + 1, 0, none⟩) (by show w.heap.size + 1 ≠ w.heap.size + 1 + 1; omega) (.slice A6 (D.1.1.length + 1) c6)
          go_wp2_with fail; go_meet
          exact Lib.hid ⟨_, _, st7, hbx7⟩
        · go_simp
          go_at_call 111
          refine (drawFn _ _ _ _ hbx hDin (by omega) (by omega)).mono ?_; rintro e wa ⟨rfl, hbxa, hca⟩
          have hsta := hst.tick hca (by omega) (by omega) (by omega) (by omega)
          have qa := hsta.c0
          have hza := hsta.size
          go_wp2_with fail
          refine hK.out _ _ (trivial) (fun hHeld => ?_)
          clear hK K
          try simp only [Act.put, List.setIfInBounds_toArray, List.set_cons_zero, List.set_cons_succ]
          refine twoH_2_5 (by kernel_rfl) (fun K hK => ?_) (fun K hK => ?_)
          · go_simp
            refine hK.out _ _ (trivial) (fun hHeld => ?_)
            clear hK K
            try simp only [Act.put, List.setIfInBounds_toArray, List.set_cons_zero, List.set_cons_succ]
            refine callH5 (by kernel_rfl) (fun K hK => ?_)
            go_simp
            refine hK.out _ _ (trivial) (fun hHeld => ?_)
            clear hK K
            try simp only [Act.put, List.setIfInBounds_toArray, List.set_cons_zero, List.set_cons_succ]
            refine callH6 (by kernel_rfl) (fun K hK => ?_)
            have hbA : Below wa.heap.size wa (wa.alloc (.cells #[.int .i64 (nxD D.2 % 2)] 2)) := below_alloc (Nat.le_refl _) (Below.refl _ _)
            have hstA := hsta.move hbA
            have hbxA := hbxa.below hbA hbxa.lt
            have hq1 : RI (wa.alloc (.cells #[.int .i64 (nxD D.2 % 2)] 2)) (some ⟨wa.heap.size, 0, none⟩) 1 1 [(nxD D.2 % 2)] := RI.one1 ((Box.new wa 2 #[.int .i64 (nxD D.2 % 2)]).cell 0)
            refine step_of_list (by rfl) (wp_appI (.tmp 48) (.tmp 51) (by rfl) (wa.alloc (.cells #[.int .i64 (nxD D.2 % 2)] 2)) (w.heap.size + 3) (.slice A0 D.1.1.length c0) D.1.1 (by rfl) hstA.own.row0 (some ⟨wa.heap.size, 0, none⟩) 1 1 [(nxD D.2 % 2)] (by rfl) hq1 (by omega) (by omega) hstA.size ?_)
            intro v6 w6 ho6 hb6 hc6 hat6
            obtain ⟨A6, c6, h1e⟩ := ho6.form
            have h1f : v6 = .slice A6 (D.1.1.length + 1) c6 := by rw [h1e]; simp
            clear h1e
            subst h1f
            have ho7 := hstA.own.set0 hc6 ho6 hat6
            have hbx6 := hbxA.below hb6 (by omega)
            obtain ⟨_, bg6, _, _⟩ := hstA.call hb6
            have q6 := bg6.c0
            have f6 := bg6.hot 0
            refine hK.out _ _ (trivial) (fun hHeld => ?_)
            clear hK K
            try simp only [Act.put, List.setIfInBounds_toArray, List.set_cons_zero, List.set_cons_succ]
            refine takeH7 (v := ?_) (by kernel_rfl) (by kernel_rfl) (by kernel_rfl) (fun _ _ _ h => h) hHeld (by rfl) ?_ ?_
            rotate_left; · (intro w hSw; (try dsimp only at hSw); go_simp; try with_reducible rfl)
            try simp only [Act.put, List.setIfInBounds_toArray, List.set_cons_zero, List.set_cons_succ]
            refine takeH8 (v := ?_) (by kernel_rfl) (by kernel_rfl) (by kernel_rfl) (fun _ _ _ h => h) hHeld (by rfl) ?_ ?_
            rotate_left; · (intro w hSw; (try dsimp only at hSw); go_simp; try with_reducible rfl)
            try simp only [Act.put, List.setIfInBounds_toArray, List.set_cons_zero, List.set_cons_succ]
            refine callH9 (by kernel_rfl) (fun K hK => ?_)
            go_simp
            refine hK.out _ _ (trivial) (fun hHeld => ?_)
            clear hK K
            try simp only [Act.put, List.setIfInBounds_toArray, List.set_cons_zero, List.set_cons_succ]
            refine wpAnyH_done (by kernel_rfl) ?_ _
            have st7 := hstA.step0 hb6 ho7
            have hbx7 := hbx6.far (p := ⟨w.heap.size + 1 + 1, 0, none⟩) (by show w.heap.size + 1 ≠ w.heap.size + 1 + 1; omega) (.slice A6 (D.1.1.length + 1) c6)
            go_wp2_with fail; go_meet
            exact Lib.hid ⟨_, _, st7, hbx7⟩
          · have qA : ∀ q, (wa.alloc q).cell? ⟨w.heap.size + 1 + 1, 0, none⟩ = some (.slice A0 D.1.1.length c0) := fun q => keepA qa
            go_simp
            refine hK.out _ _ (trivial) (fun hHeld => ?_)
            clear hK K
            try simp only [Act.put, List.setIfInBounds_toArray, List.set_cons_zero, List.set_cons_succ]
            refine callH2 (by kernel_rfl) (fun K hK => ?_)
            go_simp
            refine hK.out _ _ (trivial) (fun hHeld => ?_)
            clear hK K
            try simp only [Act.put, List.setIfInBounds_toArray, List.set_cons_zero, List.set_cons_succ]
            refine callH6 (by kernel_rfl) (fun K hK => ?_)
            have hbA : Below wa.heap.size wa (wa.alloc (.cells #[.int .i64 (nxD D.2 % 2)] 2)) := below_alloc (Nat.le_refl _) (Below.refl _ _)
            have hstA := hsta.move hbA
            have hbxA := hbxa.below hbA hbxa.lt
            have hq1 : RI (wa.alloc (.cells #[.int .i64 (nxD D.2 % 2)] 2)) (some ⟨wa.heap.size, 0, none⟩) 1 1 [(nxD D.2 % 2)] := RI.one1 ((Box.new wa 2 #[.int .i64 (nxD D.2 % 2)]).cell 0)
            refine step_of_list (by rfl) (wp_appI (.tmp 48) (.tmp 51) (by rfl) (wa.alloc (.cells #[.int .i64 (nxD D.2 % 2)] 2)) (w.heap.size + 3) (.slice A0 D.1.1.length c0) D.1.1 (by rfl) hstA.own.row0 (some ⟨wa.heap.size, 0, none⟩) 1 1 [(nxD D.2 % 2)] (by rfl) hq1 (by omega) (by omega) hstA.size ?_)
            intro v6 w6 ho6 hb6 hc6 hat6
            obtain ⟨A6, c6, h1e⟩ := ho6.form
            have h1f : v6 = .slice A6 (D.1.1.length + 1) c6 := by rw [h1e]; simp
            clear h1e
            subst h1f
            have ho7 := hstA.own.set0 hc6 ho6 hat6
            have hbx6 := hbxA.below hb6 (by omega)
            obtain ⟨_, bg6, _, _⟩ := hstA.call hb6
            have q6 := bg6.c0
            have f6 := bg6.hot 0
            refine hK.out _ _ (trivial) (fun hHeld => ?_)
            clear hK K
            try simp only [Act.put, List.setIfInBounds_toArray, List.set_cons_zero, List.set_cons_succ]
            refine takeH7 (v := ?_) (by kernel_rfl) (by kernel_rfl) (by kernel_rfl) (fun _ _ _ h => h) hHeld (by rfl) ?_ ?_
            rotate_left; · (intro w hSw; (try dsimp only at hSw); go_simp; try with_reducible rfl)
            try simp only [Act.put, List.setIfInBounds_toArray, List.set_cons_zero, List.set_cons_succ]
            refine takeH8 (v := ?_) (by kernel_rfl) (by kernel_rfl) (by kernel_rfl) (fun _ _ _ h => h) hHeld (by rfl) ?_ ?_
            rotate_left; · (intro w hSw; (try dsimp only at hSw); go_simp; try with_reducible rfl)
            try simp only [Act.put, List.setIfInBounds_toArray, List.set_cons_zero, List.set_cons_succ]
            refine callH9 (by kernel_rfl) (fun K hK => ?_)
            go_simp
            refine hK.out _ _ (trivial) (fun hHeld => ?_)
            clear hK K
            try simp only [Act.put, List.setIfInBounds_toArray, List.set_cons_zero, List.set_cons_succ]
            refine wpAnyH_done (by kernel_rfl) ?_ _
            have st7 := hstA.step0 hb6 ho7
            have hbx7 := hbx6.far (p := ⟨w.heap.size + 1 + 1, 0, none⟩) (by show w.heap.size + 1 ≠ w.heap.size + 1 + 1; omega) (.slice A6 (D.1.1.length + 1) c6)
            go_wp2_with fail; go_meet
            exact Lib.hid ⟨_, _, st7, hbx7⟩
      case rest =>
        obtain ⟨A6, c6, hst8, hbx8⟩ := hcut.out
        clear hcut hst hbx q0
        generalize wc = w8 at *
        have hst := hst8; have hbx := hbx8
        clear hst8 hbx8
        have q2 := hst.c2
        go_wp2_with fail
        go_upto_region 9 with (fail)
        go_cut [] (fun wx => Hid (∃ (A7 : Option Addr) (c7 : Nat), GSx (w.heap.size + 3) w wx w.heap.size (w.heap.size + 1 + 1) (.slice A6 (D.1.1.length + 1) c6) (.slice A1 D.1.2.1.length c1) (.slice A7 (D.1.2.2.length + 1) c7) (D.1.1 ++ [nxD D.2 % 2], D.1.2.1, D.1.2.2 ++ [nxD (nxD D.2) % p]) ∧ Box wx (w.heap.size + 1) 2 #[.int .i64 (nxD (nxD D.2))]))
        case first =>
          refine wp_region_held_drew (S := fun _ => True) (by kernel_rfl) trivial (fun hHeld => ?_)
          replace hst := hst.move (Below.drew (Below.refl w8.heap.size w8))
          replace hbx : Box w8.drew _ _ _ := hbx
          generalize w8.drew = wD at *
          have q2 := hst.c2
          refine takeH0 (v := ?_) (by kernel_rfl) (by kernel_rfl) (by kernel_rfl) (fun _ _ _ h => h) hHeld (by rfl) ?_ ?_
          rotate_left; · (intro w hSw; (try dsimp only at hSw); go_simp; try with_reducible rfl)
          try simp only [Act.put, List.setIfInBounds_toArray, List.set_cons_zero, List.set_cons_succ]
          refine takeH2 (v := ?_) (by kernel_rfl) (by kernel_rfl) (by kernel_rfl) (fun _ _ _ h => h) hHeld (by rfl) ?_ ?_
          rotate_left; · (intro w hSw; (try dsimp only at hSw); go_simp; try with_reducible rfl)
          try simp only [Act.put, List.setIfInBounds_toArray, List.set_cons_zero, List.set_cons_succ]
          refine takeH3 (v := ?_) (by kernel_rfl) (by kernel_rfl) (by kernel_rfl) (fun _ _ _ h => h) hHeld (by rfl) ?_ ?_
          rotate_left; · (intro w hSw; (try dsimp only at hSw); go_simp; try with_reducible rfl)
          try simp only [Act.put, List.setIfInBounds_toArray, List.set_cons_zero, List.set_cons_succ]
          refine twoH_1_4 (by kernel_rfl) (fun K hK => ?_) (fun K hK => ?_)
          · go_simp
            refine hK.out _ _ (trivial) (fun hHeld => ?_)
            clear hK K
            try simp only [Act.put, List.setIfInBounds_toArray, List.set_cons_zero, List.set_cons_succ]
            refine callH4 (by kernel_rfl) (fun K hK => ?_)
            go_simp
            go_at_call 111
            refine (drawFn _ _ _ _ hbx (nxD_in _) (by omega) (by omega)).mono ?_; rintro e wa ⟨rfl, hbxa, hca⟩
            have hsta := hst.tick hca (by omega) (by omega) (by omega) (by omega)
            have qa := hsta.c2
            have hza := hsta.size
            go_wp2_with fail
            refine hK.out _ _ (trivial) (fun hHeld => ?_)
            clear hK K
            try simp only [Act.put, List.setIfInBounds_toArray, List.set_cons_zero, List.set_cons_succ]
            refine callH5 (by kernel_rfl) (fun K hK => ?_)
            go_simp
            refine hK.out _ _ (trivial) (fun hHeld => ?_)
            clear hK K
            try simp only [Act.put, List.setIfInBounds_toArray, List.set_cons_zero, List.set_cons_succ]
            refine callH6 (by kernel_rfl) (fun K hK => ?_)
            have hbA : Below wa.heap.size wa (wa.alloc (.cells #[.int .i64 (nxD (nxD D.2) % p)] 2)) := below_alloc (Nat.le_refl _) (Below.refl _ _)
            have hstA := hsta.move hbA
            have hbxA := hbxa.below hbA hbxa.lt
            have hq1 : RI (wa.alloc (.cells #[.int .i64 (nxD (nxD D.2) % p)] 2)) (some ⟨wa.heap.size, 0, none⟩) 1 1 [(nxD (nxD D.2) % p)] := RI.one1 ((Box.new wa 2 #[.int .i64 (nxD (nxD D.2) % p)]).cell 0)
            refine step_of_list (by rfl) (wp_appI (.tmp 56) (.tmp 60) (by rfl) (wa.alloc (.cells #[.int .i64 (nxD (nxD D.2) % p)] 2)) (w.heap.size + 3) (.slice A2 D.1.2.2.length c2) D.1.2.2 (by rfl) hstA.own.row2 (some ⟨wa.heap.size, 0, none⟩) 1 1 [(nxD (nxD D.2) % p)] (by rfl) hq1 (by omega) (by omega) hstA.size ?_)
            intro v6 w6 ho6 hb6 hc6 hat6
            obtain ⟨A7, c7, h1e⟩ := ho6.form
            have h1f : v6 = .slice A7 (D.1.2.2.length + 1) c7 := by rw [h1e]; simp
            clear h1e
            subst h1f
            have ho7 := hstA.own.set2 hc6 ho6 hat6
            have hbx6 := hbxA.below hb6 (by omega)
            obtain ⟨_, bg6, _, _⟩ := hstA.call hb6
            have q6 := bg6.c2
            have f6 := bg6.hot 2
            refine hK.out _ _ (trivial) (fun hHeld => ?_)
            clear hK K
            try simp only [Act.put, List.setIfInBounds_toArray, List.set_cons_zero, List.set_cons_succ]
            refine takeH7 (v := ?_) (by kernel_rfl) (by kernel_rfl) (by kernel_rfl) (fun _ _ _ h => h) hHeld (by rfl) ?_ ?_
            rotate_left; · (intro w hSw; (try dsimp only at hSw); go_simp; try with_reducible rfl)
            try simp only [Act.put, List.setIfInBounds_toArray, List.set_cons_zero, List.set_cons_succ]
            refine callH8 (by kernel_rfl) (fun K hK => ?_)
            go_simp
            refine hK.out _ _ (trivial) (fun hHeld => ?_)
            clear hK K
            try simp only [Act.put, List.setIfInBounds_toArray, List.set_cons_zero, List.set_cons_succ]
            refine wpAnyH_done (by kernel_rfl) ?_ _
            have st7 := hstA.step2 hb6 ho7
            have hbx7 := hbx6.far (p := ⟨w.heap.size + 1 + 1, 2, none⟩) (by show w.heap.size + 1 ≠ w.heap.size + 1 + 1; omega) (.slice A7 (D.1.2.2.length + 1) c7)
            go_wp2_with fail; go_meet
            exact Lib.hid ⟨_, _, st7, hbx7⟩
          · go_simp
            go_at_call 111
            refine (drawFn _ _ _ _ hbx (nxD_in _) (by omega) (by omega)).mono ?_; rintro e wa ⟨rfl, hbxa, hca⟩
            have hsta := hst.tick hca (by omega) (by omega) (by omega) (by omega)
            have qa := hsta.c2
            have hza := hsta.size
            go_wp2_with fail
            refine hK.out _ _ (trivial) (fun hHeld => ?_)
            clear hK K
            try simp only [Act.put, List.setIfInBounds_toArray, List.set_cons_zero, List.set_cons_succ]
            refine twoH_1_5 (by kernel_rfl) (fun K hK => ?_) (fun K hK => ?_)
            · go_simp
              refine hK.out _ _ (trivial) (fun hHeld => ?_)
              clear hK K
              try simp only [Act.put, List.setIfInBounds_toArray, List.set_cons_zero, List.set_cons_succ]
              refine callH5 (by kernel_rfl) (fun K hK => ?_)
              go_simp
              refine hK.out _ _ (trivial) (fun hHeld => ?_)
              clear hK K
              try simp only [Act.put, List.setIfInBounds_toArray, List.set_cons_zero, List.set_cons_succ]
              refine callH6 (by kernel_rfl) (fun K hK => ?_)
              have hbA : Below wa.heap.size wa (wa.alloc (.cells #[.int .i64 (nxD (nxD D.2) % p)] 2)) := below_alloc (Nat.le_refl _) (Below.refl _ _)
              have hstA := hsta.move hbA
              have hbxA := hbxa.below hbA hbxa.lt
              have hq1 : RI (wa.alloc (.cells #[.int .i64 (nxD (nxD D.2) % p)] 2)) (some ⟨wa.heap.size, 0, none⟩) 1 1 [(nxD (nxD D.2) % p)] := RI.one1 ((Box.new wa 2 #[.int .i64 (nxD (nxD D.2) % p)]).cell 0)
              refine step_of_list (by rfl) (wp_appI (.tmp 56) (.tmp 60) (by rfl) (wa.alloc (.cells #[.int .i64 (nxD (nxD D.2) % p)] 2)) (w.heap.size + 3) (.slice A2 D.1.2.2.length c2) D.1.2.2 (by rfl) hstA.own.row2 (some ⟨wa.heap.size, 0, none⟩) 1 1 [(nxD (nxD D.2) % p)] (by rfl) hq1 (by omega) (by omega) hstA.size ?_)
              intro v6 w6 ho6 hb6 hc6 hat6
              obtain ⟨A7, c7, h1e⟩ := ho6.form
              have h1f : v6 = .slice A7 (D.1.2.2.length + 1) c7 := by rw [h1e]; simp
              clear h1e
              subst h1f
              have ho7 := hstA.own.set2 hc6 ho6 hat6
              have hbx6 := hbxA.below hb6 (by omega)
              obtain ⟨_, bg6, _, _⟩ := hstA.call hb6
              have q6 := bg6.c2
              have f6 := bg6.hot 2
              refine hK.out _ _ (trivial) (fun hHeld => ?_)
              clear hK K
              try simp only [Act.put, List.setIfInBounds_toArray, List.set_cons_zero, List.set_cons_succ]
              refine takeH7 (v := ?_) (by kernel_rfl) (by kernel_rfl) (by kernel_rfl) (fun _ _ _ h => h) hHeld (by rfl) ?_ ?_
              rotate_left; · (intro w hSw; (try dsimp only at hSw); go_simp; try with_reducible rfl)
              try simp only [Act.put, List.setIfInBounds_toArray, List.set_cons_zero, List.set_cons_succ]
              refine callH8 (by kernel_rfl) (fun K hK => ?_)
              go_simp
              refine hK.out _ _ (trivial) (fun hHeld => ?_)
              clear hK K
              try simp only [Act.put, List.setIfInBounds_toArray, List.set_cons_zero, List.set_cons_succ]
              refine wpAnyH_done (by kernel_rfl) ?_ _
              have st7 := hstA.step2 hb6 ho7
              have hbx7 := hbx6.far (p := ⟨w.heap.size + 1 + 1, 2, none⟩) (by show w.heap.size + 1 ≠ w.heap.size + 1 + 1; omega) (.slice A7 (D.1.2.2.length + 1) c7)
              go_wp2_with fail; go_meet
              exact Lib.hid ⟨_, _, st7, hbx7⟩
            · have qA : ∀ q, (wa.alloc q).cell? ⟨w.heap.size + 1 + 1, 2, none⟩ = some (.slice A2 D.1.2.2.length c2) := fun q => keepA qa
              go_simp
              refine hK.out _ _ (trivial) (fun hHeld => ?_)
              clear hK K
              try simp only [Act.put, List.setIfInBounds_toArray, List.set_cons_zero, List.set_cons_succ]
              refine callH1 (by kernel_rfl) (fun K hK => ?_)
              go_simp
              refine hK.out _ _ (trivial) (fun hHeld => ?_)
              clear hK K
              try simp only [Act.put, List.setIfInBounds_toArray, List.set_cons_zero, List.set_cons_succ]
              refine callH6 (by kernel_rfl) (fun K hK => ?_)
              have hbA : Below wa.heap.size wa (wa.alloc (.cells #[.int .i64 (nxD (nxD D.2) % p)] 2)) := below_alloc (Nat.le_refl _) (Below.refl _ _)
              have hstA := hsta.move hbA
              have hbxA := hbxa.below hbA hbxa.lt
              have hq1 : RI (wa.alloc (.cells #[.int .i64 (nxD (nxD D.2) % p)] 2)) (some ⟨wa.heap.size, 0, none⟩) 1 1 [(nxD (nxD D.2) % p)] := RI.one1 ((Box.new wa 2 #[.int .i64 (nxD (nxD D.2) % p)]).cell 0)
              refine step_of_list (by rfl) (wp_appI (.tmp 56) (.tmp 60) (by rfl) (wa.alloc (.cells #[.int .i64 (nxD (nxD D.2) % p)] 2)) (w.heap.size + 3) (.slice A2 D.1.2.2.length c2) D.1.2.2 (by rfl) hstA.own.row2 (some ⟨wa.heap.size, 0, none⟩) 1 1 [(nxD (nxD D.2) % p)] (by rfl) hq1 (by omega) (by omega) hstA.size ?_)
              intro v6 w6 ho6 hb6 hc6 hat6
              obtain ⟨A7, c7, h1e⟩ := ho6.form
              have h1f : v6 = .slice A7 (D.1.2.2.length + 1) c7 := by rw [h1e]; simp
              clear h1e
              subst h1f
              have ho7 := hstA.own.set2 hc6 ho6 hat6
              have hbx6 := hbxA.below hb6 (by omega)
              obtain ⟨_, bg6, _, _⟩ := hstA.call hb6
              have q6 := bg6.c2
              have f6 := bg6.hot 2
              refine hK.out _ _ (trivial) (fun hHeld => ?_)
              clear hK K
              try simp only [Act.put, List.setIfInBounds_toArray, List.set_cons_zero, List.set_cons_succ]
              refine takeH7 (v := ?_) (by kernel_rfl) (by kernel_rfl) (by kernel_rfl) (fun _ _ _ h => h) hHeld (by rfl) ?_ ?_
              rotate_left; · (intro w hSw; (try dsimp only at hSw); go_simp; try with_reducible rfl)
              try simp only [Act.put, List.setIfInBounds_toArray, List.set_cons_zero, List.set_cons_succ]
              refine callH8 (by kernel_rfl) (fun K hK => ?_)
              go_simp
              refine hK.out _ _ (trivial) (fun hHeld => ?_)
              clear hK K
              try simp only [Act.put, List.setIfInBounds_toArray, List.set_cons_zero, List.set_cons_succ]
              refine wpAnyH_done (by kernel_rfl) ?_ _
              have st7 := hstA.step2 hb6 ho7
              have hbx7 := hbx6.far (p := ⟨w.heap.size + 1 + 1, 2, none⟩) (by show w.heap.size + 1 ≠ w.heap.size + 1 + 1; omega) (.slice A7 (D.1.2.2.length + 1) c7)
              go_wp2_with fail; go_meet
              exact Lib.hid ⟨_, _, st7, hbx7⟩
        case rest =>
          obtain ⟨A7, c7, hst9, hbx9⟩ := hcut.out
          clear hcut hst hbx q2
          generalize wc = w9 at *
          have hem := OI.empty (E := 2) (w := w9) (B := w9.heap.size) (Nat.le_refl _)
          have hbE : Below w9.heap.size w9 (w9.alloc (.cells #[] 2)) := below_alloc (Nat.le_refl _) (Below.refl _ _)
          have hbxE := hbx9.below hbE hbx9.lt
          have hlb := hbx9.lt
          have hz9 := hst9.size
          go_wp2_with fail
          refine (drawFn _ _ _ _ hbxE (nxD_in _) (by omega) (by omega)).mono ?_; rintro e wc ⟨rfl, hbxc, hcc⟩
          rw [HCQ.out]
          have hch : Chg (fun y => y = w.heap.size + 1) w9 wc := ((Chg.refl _ w9).then_below hbE (Nat.le_refl _)).trans hcc (fun _ h => h) (fun _ h => h)
          have hoc := hem.chg hcc (fun y hy e => by have h5 : y = w.heap.size + 1 := e; have h6 : some w9.heap.size = some y := hy; injection h6 with h6; omega)
          have hin3 : inD (nxD (nxD (nxD D.2))) := nxD_in _
          clear hcc hem hbE hbxE
          go_wp2
          go_loopw [13, 68] (fun u i wr => ∃ j : Nat, j ≤ c + 1 ∧ i = .int .i64 j ∧ OI 2 wr w9.heap.size u (drD (nxD (nxD (nxD D.2))) N j) ∧ Box wr (w.heap.size + 1) 2 #[.int .i64 (stD (nxD (nxD (nxD D.2))) j)] ∧ Chg (fun y => y = w.heap.size + 1) w9 wr) (fun _ i _ => c + 1 - (intOf i).toNat)
          case atStart => exact ⟨0, by omega, rfl, hoc, hbxc, hch⟩
          case round =>
            clear hoc hbxc hch
            obtain ⟨j, hj, rfl, ho, hbx, hch⟩ := hrel
            have hdl : (drD (nxD (nxD (nxD D.2))) N j).length = j := drD_len _ _ _
            by_cases hjl : j < c + 1
            · have hji : (j : Int) < (c : Int) + 1 := by omega
              have hj0 : (0 : Int) ≤ (j : Int) := by omega
              have HDR := Lib.hid (show drD (nxD (nxD (nxD D.2))) N (j + 1) = drD (nxD (nxD (nxD D.2))) N j ++ [nxD (stD (nxD (nxD (nxD D.2))) j) % N] from drD_succ _ _ _)
              have hjin := stD_in hin3 j
              have hdl2 : (drD (nxD (nxD (nxD D.2))) N j).length ≤ 4194304 := by omega
              have HSJ := Lib.hid (show stD (nxD (nxD (nxD D.2))) (j + 1) = nxD (stD (nxD (nxD (nxD D.2))) j) from rfl)
              clear hdl
              go_wp2_with fail
              refine (drawFn _ _ _ _ hbx hjin (by omega) (by omega)).mono ?_; rintro e wx ⟨rfl, hbx1, hc1⟩
              have ho1' := ho.chg hc1 (fun y hy e => by have h5 : y = w.heap.size + 1 := e; have := (ho.lt y hy).1; omega)
              have hch1 := chg_then hch hc1
              have hs1' := hch1.size
              go_wp2_with (at_builtin; refine wpList_pushI rfl (.tmp 70) (.tmp 74) rfl _ w9.heap.size _ (drD (nxD (nxD (nxD D.2))) N j) (by rfl) ho1' _ (by rfl) hdl2 hs1' ?_; intro v2 w2 ho2' hb2 hc2 hat2)
              go_wp2
              go_roundw
              case rel => exact ⟨j + 1, by omega, by go_num, by rw [HDR.out]; exact ho2', by rw [HSJ.out]; exact hbx1.below hb2 (by omega), hch1.then_below hb2 (Nat.le_refl _)⟩
              case measure => simp [intOf]; omega
            · obtain rfl : j = c + 1 := by omega
              obtain ⟨g1, c1', e1⟩ := ho.form2 (by omega)
              subst e1
              have hg1 := (ho.lt g1 rfl).1
              have HPU := Lib.hid (set_puts (drD (nxD (nxD (nxD D.2))) N (c + 1)))
              have SL := Lib.hid (sortL_len (drD (nxD (nxD (nxD D.2))) N (c + 1)))
              have hdl2 : (drD (nxD (nxD (nxD D.2))) N (c + 1)).length ≤ 4194304 := by omega
              generalize drD (nxD (nxD (nxD D.2))) N (c + 1) = DR at *
              have HDL := Lib.hid hdl
              clear hdl
              go_wp2_with fail
              refine (slicesSort _ ho hdl2).mono ?_; rintro e wq ⟨rfl, hoq, hcq⟩
              have hoq2 : OI 2 wq w9.heap.size (.slice (some ⟨g1, 0, none⟩) (sortL DR).length c1') (sortL DR) := by rw [SL.out]; exact hoq
              have hchq : Chg (fun y => y = w.heap.size + 1) w9 wq := hch.push hcq (fun x hx => .inr (by have h5 : x = g1 := hx; omega))
              have hbxq := hbx.chg hcq (fun e => by have h5 : w.heap.size + 1 = g1 := e; omega)
              have hstq := hst9.tick hchq (by omega) (by omega) (by omega) (by omega)
              have hst := hstq; have hbx' := hbxq
              have HSM := Lib.hid (show ∀ w', OI 2 w' w9.heap.size (.slice (some ⟨g1, 0, none⟩) (sortL DR).length c1') (sortL DR) → Calls Try.prog 113 #[.slice (some ⟨g1, 0, none⟩) DR.length c1'] w' fun e w1 => e = .returned (.slice (some ⟨g1, 0, none⟩) (compL (sortL DR)).length c1') ∧ OI 2 w1 w9.heap.size (.slice (some ⟨g1, 0, none⟩) (compL (sortL DR)).length c1') (compL (sortL DR)) ∧ Chg (fun b => b = g1) w' w1 from fun w' h' => by have h2 := slicesCompact w' h'; rwa [SL.out] at h2)
              clear hbx hcq hoq hstq hch ho
              have q1 := hst.c1
              go_wp2_with fail
              refine wp_region_held_drew (S := fun _ => True) (by kernel_rfl) trivial (fun hHeld => ?_)
              have hbD : Below wq.heap.size wq wq.drew := Below.drew (Below.refl _ _)
              replace hst := hst.move hbD
              replace hbx' : Box wq.drew _ _ _ := hbx'
              replace hoq2 := hoq2.below hbD
              replace hchq := hchq.then_below hbD hchq.size
              clear q1 hbD
              generalize wq.drew = wD at *
              have q1 := hst.c1
              refine takeH0 (v := ?_) (by kernel_rfl) (by kernel_rfl) (by kernel_rfl) (fun _ _ _ h => h) hHeld (by rfl) ?_ ?_
              rotate_left; · (intro w hSw; (try dsimp only at hSw); go_simp; try with_reducible rfl)
              try simp only [Act.put, List.setIfInBounds_toArray, List.set_cons_zero, List.set_cons_succ]
              refine takeH1 (v := ?_) (by kernel_rfl) (by kernel_rfl) (by kernel_rfl) (fun _ _ _ h => h) hHeld (by rfl) ?_ ?_
              rotate_left; · (intro w hSw; (try dsimp only at hSw); go_simp; try with_reducible rfl)
              try simp only [Act.put, List.setIfInBounds_toArray, List.set_cons_zero, List.set_cons_succ]
              refine takeH3 (v := ?_) (by kernel_rfl) (by kernel_rfl) (by kernel_rfl) (fun _ _ _ h => h) hHeld (by rfl) ?_ ?_
              rotate_left; · (intro w hSw; (try dsimp only at hSw); go_simp; try with_reducible rfl)
              try simp only [Act.put, List.setIfInBounds_toArray, List.set_cons_zero, List.set_cons_succ]
              refine twoH_2_4 (by kernel_rfl) (fun K hK => ?_) (fun K hK => ?_)
              · go_simp
                refine hK.out _ _ (trivial) (fun hHeld => ?_)
                clear hK K
                try simp only [Act.put, List.setIfInBounds_toArray, List.set_cons_zero, List.set_cons_succ]
                refine callH4 (by kernel_rfl) (fun K hK => ?_)
                go_simp
                go_at_call 113
                refine (HSM.out _ (by exact hoq2)).mono ?_; rintro e wa ⟨rfl, hoa, hca⟩
                rw [HPU.out] at hoa ⊢
                have hcha : Chg (fun y => y = w.heap.size + 1) w9 wa := hchq.push hca (fun x hx => .inr (by have h5 : x = g1 := hx; omega))
                have hbxa := hbx'.chg hca (fun e => by have h5 : w.heap.size + 1 = g1 := e; omega)
                have hsta := hst9.tick hcha (by omega) (by omega) (by omega) (by omega)
                have qa := hsta.c1
                have hza := hsta.size
                go_wp2_with fail
                refine hK.out _ _ (trivial) (fun hHeld => ?_)
                clear hK K
                try simp only [Act.put, List.setIfInBounds_toArray, List.set_cons_zero, List.set_cons_succ]
                refine callH5 (by kernel_rfl) (fun K hK => ?_)
                go_simp
                refine hK.out _ _ (trivial) (fun hHeld => ?_)
                clear hK K
                try simp only [Act.put, List.setIfInBounds_toArray, List.set_cons_zero, List.set_cons_succ]
                refine callH6 (by kernel_rfl) (fun K hK => ?_)
                refine step_of_list (by rfl) (wp_pushR (.tmp 81) (.tmp 84) (by rfl) w9 wa (w.heap.size + 3) _ (.slice A1 D.1.2.1.length c1) _ (.slice (some ⟨g1, 0, none⟩) (putsL DR).length c1') (D.1.1 ++ [nxD D.2 % 2], D.1.2.1, D.1.2.2 ++ [nxD (nxD D.2) % p]) (putsL DR) (by rfl) (by rfl) hz9 hst9.own hcha (fun y hy => by have h5 : y = w.heap.size + 1 := hy; omega) hoa (by show D.1.2.1.length ≤ _; omega) ?_)
                intro v6 w6 ho6 hb6
                obtain ⟨_, _, A8, c8, _, _, _, h1e, _⟩ := ho6.form
                have h1f : v6 = .slice A8 (D.1.2.1.length + 1) c8 := by rw [h1e]; simp
                clear h1e
                subst h1f
                have hbx6 := hbxa.below hb6 (by omega)
                obtain ⟨_, bg6, _, _⟩ := hsta.call hb6
                have q6 := bg6.c1
                have f6 := bg6.hot 1
                refine hK.out _ _ (trivial) (fun hHeld => ?_)
                clear hK K
                try simp only [Act.put, List.setIfInBounds_toArray, List.set_cons_zero, List.set_cons_succ]
                refine takeH7 (v := ?_) (by kernel_rfl) (by kernel_rfl) (by kernel_rfl) (fun _ _ _ h => h) hHeld (by rfl) ?_ ?_
                rotate_left; · (intro w hSw; (try dsimp only at hSw); go_simp; try with_reducible rfl)
                try simp only [Act.put, List.setIfInBounds_toArray, List.set_cons_zero, List.set_cons_succ]
                refine takeH8 (v := ?_) (by kernel_rfl) (by kernel_rfl) (by kernel_rfl) (fun _ _ _ h => h) hHeld (by rfl) ?_ ?_
                rotate_left; · (intro w hSw; (try dsimp only at hSw); go_simp; try with_reducible rfl)
                try simp only [Act.put, List.setIfInBounds_toArray, List.set_cons_zero, List.set_cons_succ]
                refine callH9 (by kernel_rfl) (fun K hK => ?_)
                go_simp
                refine hK.out _ _ (trivial) (fun hHeld => ?_)
                clear hK K
                try simp only [Act.put, List.setIfInBounds_toArray, List.set_cons_zero, List.set_cons_succ]
                refine wpAnyH_done (by kernel_rfl) ?_ _
                have st7 := hsta.step1 hb6 ho6
                have hbx7 := hbx6.far (p := ⟨w.heap.size + 1 + 1, 1, none⟩) (by show w.heap.size + 1 ≠ w.heap.size + 1 + 1; omega) (.slice A8 (D.1.2.1.length + 1) c8)
                go_wp2
                exact ⟨⟨k + 1, _, _, _, by omega, by go_num, by rw [HS.out]; exact st7, by rw [HS.out]; exact hbx7⟩, by simp [intOf]; omega⟩
              · go_simp
                go_at_call 113
                refine (HSM.out _ (by exact hoq2)).mono ?_; rintro e wa ⟨rfl, hoa, hca⟩
                rw [HPU.out] at hoa ⊢
                have hcha : Chg (fun y => y = w.heap.size + 1) w9 wa := hchq.push hca (fun x hx => .inr (by have h5 : x = g1 := hx; omega))
                have hbxa := hbx'.chg hca (fun e => by have h5 : w.heap.size + 1 = g1 := e; omega)
                have hsta := hst9.tick hcha (by omega) (by omega) (by omega) (by omega)
                have qa := hsta.c1
                have hza := hsta.size
                go_wp2_with fail
                refine hK.out _ _ (trivial) (fun hHeld => ?_)
                clear hK K
                try simp only [Act.put, List.setIfInBounds_toArray, List.set_cons_zero, List.set_cons_succ]
                refine twoH_2_5 (by kernel_rfl) (fun K hK => ?_) (fun K hK => ?_)
                · go_simp
                  refine hK.out _ _ (trivial) (fun hHeld => ?_)
                  clear hK K
                  try simp only [Act.put, List.setIfInBounds_toArray, List.set_cons_zero, List.set_cons_succ]
                  refine callH5 (by kernel_rfl) (fun K hK => ?_)
                  go_simp
                  refine hK.out _ _ (trivial) (fun hHeld => ?_)
                  clear hK K
                  try simp only [Act.put, List.setIfInBounds_toArray, List.set_cons_zero, List.set_cons_succ]
                  refine callH6 (by kernel_rfl) (fun K hK => ?_)
                  refine step_of_list (by rfl) (wp_pushR (.tmp 81) (.tmp 84) (by rfl) w9 wa (w.heap.size + 3) _ (.slice A1 D.1.2.1.length c1) _ (.slice (some ⟨g1, 0, none⟩) (putsL DR).length c1') (D.1.1 ++ [nxD D.2 % 2], D.1.2.1, D.1.2.2 ++ [nxD (nxD D.2) % p]) (putsL DR) (by rfl) (by rfl) hz9 hst9.own hcha (fun y hy => by have h5 : y = w.heap.size + 1 := hy; omega) hoa (by show D.1.2.1.length ≤ _; omega) ?_)
                  intro v6 w6 ho6 hb6
                  obtain ⟨_, _, A8, c8, _, _, _, h1e, _⟩ := ho6.form
                  have h1f : v6 = .slice A8 (D.1.2.1.length + 1) c8 := by rw [h1e]; simp
                  clear h1e
                  subst h1f
                  have hbx6 := hbxa.below hb6 (by omega)
                  obtain ⟨_, bg6, _, _⟩ := hsta.call hb6
                  have q6 := bg6.c1
                  have f6 := bg6.hot 1
                  refine hK.out _ _ (trivial) (fun hHeld => ?_)
                  clear hK K
                  try simp only [Act.put, List.setIfInBounds_toArray, List.set_cons_zero, List.set_cons_succ]
                  refine takeH7 (v := ?_) (by kernel_rfl) (by kernel_rfl) (by kernel_rfl) (fun _ _ _ h => h) hHeld (by rfl) ?_ ?_
                  rotate_left; · (intro w hSw; (try dsimp only at hSw); go_simp; try with_reducible rfl)
                  try simp only [Act.put, List.setIfInBounds_toArray, List.set_cons_zero, List.set_cons_succ]
                  refine takeH8 (v := ?_) (by kernel_rfl) (by kernel_rfl) (by kernel_rfl) (fun _ _ _ h => h) hHeld (by rfl) ?_ ?_
                  rotate_left; · (intro w hSw; (try dsimp only at hSw); go_simp; try with_reducible rfl)
                  try simp only [Act.put, List.setIfInBounds_toArray, List.set_cons_zero, List.set_cons_succ]
                  refine callH9 (by kernel_rfl) (fun K hK => ?_)
                  go_simp
                  refine hK.out _ _ (trivial) (fun hHeld => ?_)
                  clear hK K
                  try simp only [Act.put, List.setIfInBounds_toArray, List.set_cons_zero, List.set_cons_succ]
                  refine wpAnyH_done (by kernel_rfl) ?_ _
                  have st7 := hsta.step1 hb6 ho6
                  have hbx7 := hbx6.far (p := ⟨w.heap.size + 1 + 1, 1, none⟩) (by show w.heap.size + 1 ≠ w.heap.size + 1 + 1; omega) (.slice A8 (D.1.2.1.length + 1) c8)
                  go_wp2
                  exact ⟨⟨k + 1, _, _, _, by omega, by go_num, by rw [HS.out]; exact st7, by rw [HS.out]; exact hbx7⟩, by simp [intOf]; omega⟩
                · have qA : ∀ q, (wa.alloc q).cell? ⟨w.heap.size + 1 + 1, 1, none⟩ = some (.slice A1 D.1.2.1.length c1) := fun q => keepA qa
                  go_simp
                  refine hK.out _ _ (trivial) (fun hHeld => ?_)
                  clear hK K
                  try simp only [Act.put, List.setIfInBounds_toArray, List.set_cons_zero, List.set_cons_succ]
                  refine callH2 (by kernel_rfl) (fun K hK => ?_)
                  go_simp
                  refine hK.out _ _ (trivial) (fun hHeld => ?_)
                  clear hK K
                  try simp only [Act.put, List.setIfInBounds_toArray, List.set_cons_zero, List.set_cons_succ]
                  refine callH6 (by kernel_rfl) (fun K hK => ?_)
                  refine step_of_list (by rfl) (wp_pushR (.tmp 81) (.tmp 84) (by rfl) w9 wa (w.heap.size + 3) _ (.slice A1 D.1.2.1.length c1) _ (.slice (some ⟨g1, 0, none⟩) (putsL DR).length c1') (D.1.1 ++ [nxD D.2 % 2], D.1.2.1, D.1.2.2 ++ [nxD (nxD D.2) % p]) (putsL DR) (by rfl) (by rfl) hz9 hst9.own hcha (fun y hy => by have h5 : y = w.heap.size + 1 := hy; omega) hoa (by show D.1.2.1.length ≤ _; omega) ?_)
                  intro v6 w6 ho6 hb6
                  obtain ⟨_, _, A8, c8, _, _, _, h1e, _⟩ := ho6.form
                  have h1f : v6 = .slice A8 (D.1.2.1.length + 1) c8 := by rw [h1e]; simp
                  clear h1e
                  subst h1f
                  have hbx6 := hbxa.below hb6 (by omega)
                  obtain ⟨_, bg6, _, _⟩ := hsta.call hb6
                  have q6 := bg6.c1
                  have f6 := bg6.hot 1
                  refine hK.out _ _ (trivial) (fun hHeld => ?_)
                  clear hK K
                  try simp only [Act.put, List.setIfInBounds_toArray, List.set_cons_zero, List.set_cons_succ]
                  refine takeH7 (v := ?_) (by kernel_rfl) (by kernel_rfl) (by kernel_rfl) (fun _ _ _ h => h) hHeld (by rfl) ?_ ?_
                  rotate_left; · (intro w hSw; (try dsimp only at hSw); go_simp; try with_reducible rfl)
                  try simp only [Act.put, List.setIfInBounds_toArray, List.set_cons_zero, List.set_cons_succ]
                  refine takeH8 (v := ?_) (by kernel_rfl) (by kernel_rfl) (by kernel_rfl) (fun _ _ _ h => h) hHeld (by rfl) ?_ ?_
                  rotate_left; · (intro w hSw; (try dsimp only at hSw); go_simp; try with_reducible rfl)
                  try simp only [Act.put, List.setIfInBounds_toArray, List.set_cons_zero, List.set_cons_succ]
                  refine callH9 (by kernel_rfl) (fun K hK => ?_)
                  go_simp
                  refine hK.out _ _ (trivial) (fun hHeld => ?_)
                  clear hK K
                  try simp only [Act.put, List.setIfInBounds_toArray, List.set_cons_zero, List.set_cons_succ]
                  refine wpAnyH_done (by kernel_rfl) ?_ _
                  have st7 := hsta.step1 hb6 ho6
                  have hbx7 := hbx6.far (p := ⟨w.heap.size + 1 + 1, 1, none⟩) (by show w.heap.size + 1 ≠ w.heap.size + 1 + 1; omega) (.slice A8 (D.1.2.1.length + 1) c8)
                  go_wp2
                  exact ⟨⟨k + 1, _, _, _, by omega, by go_num, by rw [HS.out]; exact st7, by rw [HS.out]; exact hbx7⟩, by simp [intOf]; omega⟩
    · obtain rfl : k = N := by omega
      clear hln
      have q0 := hst.c0
      have q1 := hst.c1
      have q2 := hst.c2
      have z0 := hst.z0
      have z1 := hst.z1
      have z2 := hst.z2
      have F0 := hst.hotZ 0
      have F1 := hst.hotZ 1
      have F2 := hst.hotZ 2
      obtain ⟨fo, fb, fx⟩ := hst.fin
      have R0 := fx.c0
      have R1 := fx.c1
      have R2 := fx.c2
      have HF := Lib.hid fo
      clear fo fx
      go_wp2
      refine bodyPost_ret (v := .tuple #[.agg #[.slice A0 (diceUp (seedD s) k p o k).1.1.length c0, .slice A1 (diceUp (seedD s) k p o k).1.2.1.length c1, .slice A2 (diceUp (seedD s) k p o k).1.2.2.length c2], .bool true]) (by simp [results, Try.results43, go_sem, R0, R1, R2]) rfl ⟨_, _, _, by rw [hE.out], ?_, fb.mono hB⟩
      rw [diceP_yes hE.out]
      exact HF.out.more (by omega)
end Go.Proofs.Ytefjhkcafcchlaa
