/- w6Copy: an arena's copy. -/
import Derived.Test.YtefjhkcafcchlaaArn
import Derived.Test.YtefjhkcafcchlaaCut
namespace Go.Proofs.Ytefjhkcafcchlaa
open Go.RowKit

theorem twoH_1_2 {P : Program} {Q : Exit → Act → World → Prop} {md : Region.Mode} {S : World → Prop} {fuel : Nat} {listed : Array Bool} {a : Act} {w : World} {o0 o1 o2 : Oper} {r : List Oper} (hr : Region.ready md (List.toArray (o0 :: o1 :: o2 :: r)) listed = [1, 2])
    (h1 : ∀ K' : Act → World → Prop, Shut (∀ a w, S w → (S w → wpAnyH P md (List.toArray (o0 :: o1 :: o2 :: r)) Q S fuel (listed.setIfInBounds 1 true) a w) → K' a w) → if Region.wanted o1 (yielded (List.toArray (o0 :: o1 :: o2 :: r)) a.tmps) = true then Oper.wp P o1 a w K' Q else K' (a.put o1.dst undef) w) (h2 : ∀ K' : Act → World → Prop, Shut (∀ a w, S w → (S w → wpAnyH P md (List.toArray (o0 :: o1 :: o2 :: r)) Q S fuel (listed.setIfInBounds 2 true) a w) → K' a w) → if Region.wanted o2 (yielded (List.toArray (o0 :: o1 :: o2 :: r)) a.tmps) = true then Oper.wp P o2 a w K' Q else K' (a.put o2.dst undef) w) : wpAnyH P md (List.toArray (o0 :: o1 :: o2 :: r)) Q S (fuel + 1) listed a w :=
  wpAnyH_ready (rs := [1, 2]) hr (by simp) (AllReadyH.cons rfl h1 (AllReadyH.cons rfl h2 AllReadyH.nil))
theorem twoH_1_8 {P : Program} {Q : Exit → Act → World → Prop} {md : Region.Mode} {S : World → Prop} {fuel : Nat} {listed : Array Bool} {a : Act} {w : World} {o0 o1 o2 o3 o4 o5 o6 o7 o8 : Oper} {r : List Oper} (hr : Region.ready md (List.toArray (o0 :: o1 :: o2 :: o3 :: o4 :: o5 :: o6 :: o7 :: o8 :: r)) listed = [1, 8])
    (h1 : ∀ K' : Act → World → Prop, Shut (∀ a w, S w → (S w → wpAnyH P md (List.toArray (o0 :: o1 :: o2 :: o3 :: o4 :: o5 :: o6 :: o7 :: o8 :: r)) Q S fuel (listed.setIfInBounds 1 true) a w) → K' a w) → if Region.wanted o1 (yielded (List.toArray (o0 :: o1 :: o2 :: o3 :: o4 :: o5 :: o6 :: o7 :: o8 :: r)) a.tmps) = true then Oper.wp P o1 a w K' Q else K' (a.put o1.dst undef) w) (h2 : ∀ K' : Act → World → Prop, Shut (∀ a w, S w → (S w → wpAnyH P md (List.toArray (o0 :: o1 :: o2 :: o3 :: o4 :: o5 :: o6 :: o7 :: o8 :: r)) Q S fuel (listed.setIfInBounds 8 true) a w) → K' a w) → if Region.wanted o8 (yielded (List.toArray (o0 :: o1 :: o2 :: o3 :: o4 :: o5 :: o6 :: o7 :: o8 :: r)) a.tmps) = true then Oper.wp P o8 a w K' Q else K' (a.put o8.dst undef) w) : wpAnyH P md (List.toArray (o0 :: o1 :: o2 :: o3 :: o4 :: o5 :: o6 :: o7 :: o8 :: r)) Q S (fuel + 1) listed a w :=
  wpAnyH_ready (rs := [1, 8]) hr (by simp) (AllReadyH.cons rfl h1 (AllReadyH.cons rfl h2 AllReadyH.nil))
theorem twoH_1_9 {P : Program} {Q : Exit → Act → World → Prop} {md : Region.Mode} {S : World → Prop} {fuel : Nat} {listed : Array Bool} {a : Act} {w : World} {o0 o1 o2 o3 o4 o5 o6 o7 o8 o9 : Oper} {r : List Oper} (hr : Region.ready md (List.toArray (o0 :: o1 :: o2 :: o3 :: o4 :: o5 :: o6 :: o7 :: o8 :: o9 :: r)) listed = [1, 9])
    (h1 : ∀ K' : Act → World → Prop, Shut (∀ a w, S w → (S w → wpAnyH P md (List.toArray (o0 :: o1 :: o2 :: o3 :: o4 :: o5 :: o6 :: o7 :: o8 :: o9 :: r)) Q S fuel (listed.setIfInBounds 1 true) a w) → K' a w) → if Region.wanted o1 (yielded (List.toArray (o0 :: o1 :: o2 :: o3 :: o4 :: o5 :: o6 :: o7 :: o8 :: o9 :: r)) a.tmps) = true then Oper.wp P o1 a w K' Q else K' (a.put o1.dst undef) w) (h2 : ∀ K' : Act → World → Prop, Shut (∀ a w, S w → (S w → wpAnyH P md (List.toArray (o0 :: o1 :: o2 :: o3 :: o4 :: o5 :: o6 :: o7 :: o8 :: o9 :: r)) Q S fuel (listed.setIfInBounds 9 true) a w) → K' a w) → if Region.wanted o9 (yielded (List.toArray (o0 :: o1 :: o2 :: o3 :: o4 :: o5 :: o6 :: o7 :: o8 :: o9 :: r)) a.tmps) = true then Oper.wp P o9 a w K' Q else K' (a.put o9.dst undef) w) : wpAnyH P md (List.toArray (o0 :: o1 :: o2 :: o3 :: o4 :: o5 :: o6 :: o7 :: o8 :: o9 :: r)) Q S (fuel + 1) listed a w :=
  wpAnyH_ready (rs := [1, 9]) hr (by simp) (AllReadyH.cons rfl h1 (AllReadyH.cons rfl h2 AllReadyH.nil))
set_option maxRecDepth 100000 in
set_option maxHeartbeats 1600000 in
theorem w6Copy (s0 s1 : Value) (z : ArD) (w : World) (B : Nat) (hB : B ≤ w.heap.size) (ha : RAv w s0 s1 z.1 z.2) (hf : fineAr z.1 z.2) :
    Calls Try.prog 21 #[.agg #[s0, s1]] w fun e w' => ∃ t0 t1, e = .returned (.agg #[t0, t1]) ∧ OArn w' B t0 t1 z ∧ Below B w w' := by
  obtain ⟨A0, n0, c0, A1, n1, c1, rfl, rfl⟩ := ha.form
  have hr := ha.ri; have hrr := ha.rii
  have b1 := hrr.cap; have b2 := hrr.top
  have HL := Lib.hid hr.len; have HM := Lib.hid hrr.len
  have hn0 : n0 ≤ 1048576 := by have := hf.2.1; rw [HL.out] at this; omega
  have hn1 : n1 ≤ 1048576 := by have := hf.2.2.1; rw [HM.out, HL.out] at this; omega
  have hle : ∀ i, i < n1 → (gl z.2 i).length ≤ 1048576 := fun i hi => by
    have h3 := hf.2.2.1
    have := (hf.2.2.2 i (by rw [← h3, HM.out]; exact hi)).2.1.2
    omega
  have HLE := Lib.hid hle
  clear hle hf
  have hwL : Below w.heap.size w ((w.alloc (.cells #[.slice A0 n0 c0, .slice A1 n1 c1] 30)).alloc (.cells #[.slice none 0 0, .slice none 0 0] 30)) := below_alloc (Nat.le_refl _) (below_alloc (Nat.le_refl _) (Below.refl _ _))
  have bxL := (Box.new w 30 #[.slice A0 n0 c0, .slice A1 n1 c1]).alloc (.cells #[.slice none 0 0, .slice none 0 0] 30)
  have brL : Box ((w.alloc (.cells #[.slice A0 n0 c0, .slice A1 n1 c1] 30)).alloc (.cells #[.slice none 0 0, .slice none 0 0] 30)) (w.heap.size + 1) 30 #[.slice none 0 0, .slice none 0 0] := Box.new' (by simp)
  have hsL : w.heap.size + 2 = ((w.alloc (.cells #[.slice A0 n0 c0, .slice A1 n1 c1] 30)).alloc (.cells #[.slice none 0 0, .slice none 0 0] 30)).heap.size := by simp
  have q0 := bxL.d0; have q1 := bxL.d1
  go_enter Try.func21, Try.ntmps21
  go_wp2_with fail
  generalize ((w.alloc (.cells #[.slice A0 n0 c0, .slice A1 n1 c1] 30)).alloc (.cells #[.slice none 0 0, .slice none 0 0] 30)) = W at *
  have HsL := Lib.hid hsL
  replace hsL : w.heap.size + 2 ≤ W.heap.size := by omega
  have hem := OI.empty (E := 2) (w := W) (B := W.heap.size) (Nat.le_refl _)
  have hbE : Below W.heap.size W (W.alloc (.cells #[] 2)) := below_alloc (Nat.le_refl _) (Below.refl _ _)
  have q0' : (W.alloc (.cells #[] 2)).cell? ⟨w.heap.size, 0, none⟩ = some (.slice A0 n0 c0) := keepA q0
  go_wp2_with (at_builtin; refine wpList_appI rfl (.tmp 5) (.tmp 7) rfl _ W.heap.size _ [] rfl hem _ _ _ z.1 rfl ((hr.keep (keeps_below hwL)).keep (keeps_below hbE)) (by simp) (by omega) (by simp) ?_; intro v0 w1 ho1 hb1' hc1 hat1; have hb1 := hbE.trans hb1'; try rw [List.nil_append] at ho1; obtain ⟨Av0, cv0, rfl⟩ := ho1.form; have hs1 := hb1.size; have bx1 := bxL.below hb1 (by omega); have br1 := brL.below hb1 (by omega))
  clear hem hbE q0' hb1' hc1 hat1
  go_loopw [4] (fun i wr => ∃ (k : Nat) (v1 : Value) (L : List (List Int)), k ≤ n1 ∧ i = .int .i64 k ∧ L = z.2.take k ∧ OArn wr (w1.heap.size + 1) (.slice none 0 0) v1 ([], L) ∧ Box wr w1.heap.size 30 #[.slice Av0 z.1.length cv0, v1] ∧ Below w1.heap.size w1 wr ∧ w1.heap.size + 1 ≤ wr.heap.size) (fun i _ => n1 - (intOf i).toNat)
  case atStart => exact ⟨0, _, [], Nat.zero_le _, rfl, rfl, OArn.nil _ _, Box.new _ _ _, below_alloc (Nat.le_refl _) (Below.refl _ _), by simp⟩
  case round =>
    obtain ⟨k, v1, L, hk, rfl, hLk, ho, bR, hbr, hsr⟩ := hrel
    have HLk := Lib.hid hLk
    have hlen : L.length ≤ 4194304 := by rw [hLk, List.length_take, HM.out]; omega
    clear hLk
    obtain ⟨A3, c3, Av, cv, h0e, rfl⟩ := ho.form
    clear h0e
    have bX := bx1.below hbr (by omega)
    have g0 := bX.d0
    have g1 := bX.d1
    by_cases hlt : k < n1
    · obtain ⟨bb, off, A4, n4, c4, rfl, hc, r4⟩ := (ha.rii.keep (keeps_below ((hwL.trans (hb1.mono (by omega))).trans (hbr.mono (by omega))))).at_ hlt
      have hbb : bb < w.heap.size := by
        obtain ⟨bb', off', A4', n4', c4', e', hc', _⟩ := ha.rii.at_ hlt
        injection e' with e'
        injection e' with e2 e3
        subst e2
        simpa using World.block_lt_of_cell? w _ hc'
      have hl4 : n4 ≤ 1048576 := by have := HLE.out k hlt; rw [r4.len] at this; exact this
      have p0 := bR.d0
      have p1 := bR.d1
      have hX := Lib.hid (take_gl (xs := z.2) (k := k) (by rw [HM.out]; exact hlt))
      go_wp2_with fail
      refine wp_region_held_drew (S := fun w' => w'.cell? ⟨w.heap.size, 1, none⟩ = some (.slice (some ⟨bb, off, none⟩) n1 c1) ∧ w'.cell? ⟨bb, off + k, none⟩ = some (.slice A4 n4 c4)) (by kernel_rfl) ⟨g1, hc⟩ (fun hHeld => ?_)
      have hdr : Below wr.heap.size wr wr.drew := Below.drew (Below.refl _ _)
      have hrD := r4.keep (keeps_below hdr)
      replace bX : Box wr.drew _ _ _ := bX
      replace bR : Box wr.drew _ _ _ := bR
      replace g1 : wr.drew.cell? _ = some _ := g1
      replace hc : wr.drew.cell? _ = some _ := hc
      replace ho := ho.below hdr
      replace hbr : Below _ _ wr.drew := Below.drew hbr
      replace hsr : w1.heap.size + 1 ≤ wr.drew.heap.size := hsr
      clear hdr p0 p1 g0 r4
      generalize wr.drew = wD at *
      have k1 := bR.d1
      have hem := OI.empty (E := 2) (w := wD) (B := wD.heap.size) (Nat.le_refl _)
      have hbE : Below wD.heap.size wD (wD.alloc (.cells #[] 2)) := below_alloc (Nat.le_refl _) (Below.refl _ _)
      have k1' : ∀ o, (wD.alloc o).cell? ⟨w1.heap.size, 1, none⟩ = some (.slice Av L.length cv) := fun o => keepA k1
      have hrE := hrD.keep (keeps_below hbE)
      refine takeH0 (v := ?_) (by kernel_rfl) (by kernel_rfl) (by kernel_rfl) (fun _ _ _ h => h) hHeld (by rfl) ?_ ?_
      rotate_left; · (intro w hSw; (try dsimp only at hSw); go_simp; try with_reducible rfl)
      try simp only [Act.put, List.setIfInBounds_toArray, List.set_cons_zero, List.set_cons_succ]
      refine takeH3 (v := ?_) (by kernel_rfl) (by kernel_rfl) (by kernel_rfl) (fun _ _ _ h => h) hHeld (by rfl) ?_ ?_
      rotate_left; · (intro w hSw; (try dsimp only at hSw); go_simp; try with_reducible rfl)
      try simp only [Act.put, List.setIfInBounds_toArray, List.set_cons_zero, List.set_cons_succ]
      refine takeH4 (v := ?_) (by kernel_rfl) (by kernel_rfl) (by kernel_rfl) (fun _ _ _ h => h) hHeld (by rfl) ?_ ?_
      rotate_left; · (intro w hSw; (try dsimp only at hSw); go_simp; try with_reducible rfl)
      try simp only [Act.put, List.setIfInBounds_toArray, List.set_cons_zero, List.set_cons_succ]
      refine takeH5 (v := ?_) (by kernel_rfl) (by kernel_rfl) (by kernel_rfl) (fun _ _ _ h => h) hHeld (by rfl) ?_ ?_
      rotate_left; · (intro w hSw; (try dsimp only at hSw); go_simp; try with_reducible rfl)
      try simp only [Act.put, List.setIfInBounds_toArray, List.set_cons_zero, List.set_cons_succ]
      refine takeH6 (v := ?_) (by kernel_rfl) (by kernel_rfl) (by kernel_rfl) (fun _ _ _ h => h) hHeld (by rfl) ?_ ?_
      rotate_left; · (intro w hSw; (try dsimp only at hSw); go_simp; try with_reducible rfl)
      try simp only [Act.put, List.setIfInBounds_toArray, List.set_cons_zero, List.set_cons_succ]
      refine takeH7 (v := ?_) (by kernel_rfl) (by kernel_rfl) (by kernel_rfl) (fun _ _ _ h => h) hHeld (by rfl) ?_ ?_
      rotate_left; · (intro w hSw; (try dsimp only at hSw); go_simp; try with_reducible rfl)
      try simp only [Act.put, List.setIfInBounds_toArray, List.set_cons_zero, List.set_cons_succ]
      refine twoH_1_2 (by kernel_rfl) (fun K hK => ?_) (fun K hK => ?_)
      · go_simp
        refine hK.out _ _ (⟨g1, hc⟩) (fun hHeld => ?_)
        clear hK K
        try simp only [Act.put, List.setIfInBounds_toArray, List.set_cons_zero, List.set_cons_succ]
        refine callH2 (by kernel_rfl) (fun K hK => ?_)
        go_simp
        refine hK.out _ _ (⟨keepA g1, keepA hc⟩) (fun hHeld => ?_)
        clear hK K
        try simp only [Act.put, List.setIfInBounds_toArray, List.set_cons_zero, List.set_cons_succ]
        refine callH8 (by kernel_rfl) (fun K hK => ?_)
        refine step_of_list (by rfl) (wp_appI (.tmp 19) (.tmp 24) (by rfl) (wD.alloc (.cells #[] 2)) wD.heap.size (.slice (some ⟨wD.heap.size, 0, none⟩) 0 0) [] (by rfl) hem A4 n4 c4 (gl z.2 k) (by rfl) hrE (by simp) (by omega) hbE.size ?_)
        intro u2 w2 ho2 hb2' hc2 hat2
        rw [List.nil_append] at ho2
        obtain ⟨Au, cu, rfl⟩ := ho2.form
        have hb2 : Below wD.heap.size wD w2 := hbE.trans hb2'
        have bX2 := bX.below hb2 (by omega)
        have bR2 := bR.below hb2 (by omega)
        have S1 : w2.cell? ⟨w.heap.size, 1, none⟩ = some (.slice (some ⟨bb, off, none⟩) n1 c1) := bX2.d1
        have S2 : w2.cell? ⟨bb, off + k, none⟩ = some (.slice A4 n4 c4) := (hb2.cell (by show bb < _; omega)).trans hc
        have k2 := bR2.d1
        have k2' : ∀ o, (w2.alloc o).cell? ⟨w1.heap.size, 1, none⟩ = some (.slice Av L.length cv) := fun o => keepA k2
        refine hK.out _ _ (⟨S1, S2⟩) (fun hHeld => ?_)
        clear hK K
        try simp only [Act.put, List.setIfInBounds_toArray, List.set_cons_zero, List.set_cons_succ]
        refine callH9 (by kernel_rfl) (fun K hK => ?_)
        go_simp
        refine hK.out _ _ (⟨keepA S1, keepA S2⟩) (fun hHeld => ?_)
        clear hK K
        try simp only [Act.put, List.setIfInBounds_toArray, List.set_cons_zero, List.set_cons_succ]
        refine callH10 (by kernel_rfl) (fun K hK => ?_)
        refine step_of_list (by rfl) (wp_pushN (.tmp 18) (.tmp 26) (by rfl) wD w2 (w1.heap.size + 1) (.slice none 0 0) (.slice Av L.length cv) ([], L) (.slice Au (gl z.2 k).length cu) (gl z.2 k) (by rfl) (by rfl) hsr ho hb2 ho2 hlen ?_)
        intro v3 w3 ho3 hb3 hc3 hat3
        obtain ⟨_, _, Av3, cv3, h0e3, h1e3⟩ := ho3.form
        clear h0e3 hat3
        have h1e : v3 = .slice Av3 (L.length + 1) cv3 := by rw [h1e3]; simp
        subst h1e
        clear h1e3
        have bX3 := bX2.below hb3 (by omega)
        have bR3 := bR2.below hb3 (by omega)
        have S31 : w3.cell? ⟨w.heap.size, 1, none⟩ = some (.slice (some ⟨bb, off, none⟩) n1 c1) := bX3.d1
        have S32 : w3.cell? ⟨bb, off + k, none⟩ = some (.slice A4 n4 c4) := (hb3.cell (by show bb < _; omega)).trans S2
        have T1 := bR3.d1
        have F1 := bR3.hot 1
        refine hK.out _ _ (⟨S31, S32⟩) (fun hHeld => ?_)
        clear hK K
        try simp only [Act.put, List.setIfInBounds_toArray, List.set_cons_zero, List.set_cons_succ]
        refine takeH11 (v := ?_) (by kernel_rfl) (by kernel_rfl) (by kernel_rfl) (fun _ _ _ h => h) hHeld (by rfl) ?_ ?_
        rotate_left; · (intro w hSw; (try dsimp only at hSw); go_simp; try with_reducible rfl)
        try simp only [Act.put, List.setIfInBounds_toArray, List.set_cons_zero, List.set_cons_succ]
        refine callH12 (by kernel_rfl) (fun K hK => ?_)
        go_simp
        refine hK.out _ _ (⟨keepS S31 (by show w.heap.size ≠ w1.heap.size; omega), keepS S32 (by show bb ≠ w1.heap.size; omega)⟩) (fun hHeld => ?_)
        clear hK K
        try simp only [Act.put, List.setIfInBounds_toArray, List.set_cons_zero, List.set_cons_succ]
        refine wpAnyH_done (by kernel_rfl) ?_ _
        have ch : Chg (fun b => b = w1.heap.size) w3 (w3.setCell ⟨w1.heap.size, 1, none⟩ (.slice Av3 (L.length + 1) cv3)) := Chg.set (w := w3) ⟨w1.heap.size, 1, none⟩ (.slice Av3 (L.length + 1) cv3)
        have bF : Box (w3.setCell ⟨w1.heap.size, 1, none⟩ (.slice Av3 (L.length + 1) cv3)) w1.heap.size 30 #[.slice Av0 z.1.length cv0, .slice Av3 (L.length + 1) cv3] := bR3.set_ 1 (.slice Av3 (L.length + 1) cv3)
        have hs2 := hb2.size
        have hs3 := hb3.size
        have hbF : Below w1.heap.size w1 (w3.setCell ⟨w1.heap.size, 1, none⟩ (.slice Av3 (L.length + 1) cv3)) := (hbr.trans ((hb2.mono (by omega)).trans (hb3.mono (by omega)))).trans (ch.below (by omega) (fun b hb => by omega))
        have fin : OArn (w3.setCell ⟨w1.heap.size, 1, none⟩ (.slice Av3 (L.length + 1) cv3)) (w1.heap.size + 1) (.slice none 0 0) (.slice Av3 (L.length + 1) cv3) ([], L ++ [gl z.2 k]) := by have h := ho3.chg ch (fun b hb => by omega); simpa using h
        have hsF := ch.size
        go_wp2
        go_roundw
        case rel => exact ⟨k + 1, _, _, by omega, by go_num, by rw [hX.out, ← HLk.out], fin, bF, hbF, by omega⟩
        case measure => simp [intOf]; omega
      · go_simp
        refine hK.out _ _ (⟨keepA g1, keepA hc⟩) (fun hHeld => ?_)
        clear hK K
        try simp only [Act.put, List.setIfInBounds_toArray, List.set_cons_zero, List.set_cons_succ]
        refine twoH_1_8 (by kernel_rfl) (fun K hK => ?_) (fun K hK => ?_)
        · go_simp
          refine hK.out _ _ (⟨keepA g1, keepA hc⟩) (fun hHeld => ?_)
          clear hK K
          try simp only [Act.put, List.setIfInBounds_toArray, List.set_cons_zero, List.set_cons_succ]
          refine callH8 (by kernel_rfl) (fun K hK => ?_)
          refine step_of_list (by rfl) (wp_appI (.tmp 19) (.tmp 24) (by rfl) (wD.alloc (.cells #[] 2)) wD.heap.size (.slice (some ⟨wD.heap.size, 0, none⟩) 0 0) [] (by rfl) hem A4 n4 c4 (gl z.2 k) (by rfl) hrE (by simp) (by omega) hbE.size ?_)
          intro u2 w2 ho2 hb2' hc2 hat2
          rw [List.nil_append] at ho2
          obtain ⟨Au, cu, rfl⟩ := ho2.form
          have hb2 : Below wD.heap.size wD w2 := hbE.trans hb2'
          have bX2 := bX.below hb2 (by omega)
          have bR2 := bR.below hb2 (by omega)
          have S1 : w2.cell? ⟨w.heap.size, 1, none⟩ = some (.slice (some ⟨bb, off, none⟩) n1 c1) := bX2.d1
          have S2 : w2.cell? ⟨bb, off + k, none⟩ = some (.slice A4 n4 c4) := (hb2.cell (by show bb < _; omega)).trans hc
          have k2 := bR2.d1
          have k2' : ∀ o, (w2.alloc o).cell? ⟨w1.heap.size, 1, none⟩ = some (.slice Av L.length cv) := fun o => keepA k2
          refine hK.out _ _ (⟨S1, S2⟩) (fun hHeld => ?_)
          clear hK K
          try simp only [Act.put, List.setIfInBounds_toArray, List.set_cons_zero, List.set_cons_succ]
          refine callH9 (by kernel_rfl) (fun K hK => ?_)
          go_simp
          refine hK.out _ _ (⟨keepA S1, keepA S2⟩) (fun hHeld => ?_)
          clear hK K
          try simp only [Act.put, List.setIfInBounds_toArray, List.set_cons_zero, List.set_cons_succ]
          refine callH10 (by kernel_rfl) (fun K hK => ?_)
          refine step_of_list (by rfl) (wp_pushN (.tmp 18) (.tmp 26) (by rfl) wD w2 (w1.heap.size + 1) (.slice none 0 0) (.slice Av L.length cv) ([], L) (.slice Au (gl z.2 k).length cu) (gl z.2 k) (by rfl) (by rfl) hsr ho hb2 ho2 hlen ?_)
          intro v3 w3 ho3 hb3 hc3 hat3
          obtain ⟨_, _, Av3, cv3, h0e3, h1e3⟩ := ho3.form
          clear h0e3 hat3
          have h1e : v3 = .slice Av3 (L.length + 1) cv3 := by rw [h1e3]; simp
          subst h1e
          clear h1e3
          have bX3 := bX2.below hb3 (by omega)
          have bR3 := bR2.below hb3 (by omega)
          have S31 : w3.cell? ⟨w.heap.size, 1, none⟩ = some (.slice (some ⟨bb, off, none⟩) n1 c1) := bX3.d1
          have S32 : w3.cell? ⟨bb, off + k, none⟩ = some (.slice A4 n4 c4) := (hb3.cell (by show bb < _; omega)).trans S2
          have T1 := bR3.d1
          have F1 := bR3.hot 1
          refine hK.out _ _ (⟨S31, S32⟩) (fun hHeld => ?_)
          clear hK K
          try simp only [Act.put, List.setIfInBounds_toArray, List.set_cons_zero, List.set_cons_succ]
          refine takeH11 (v := ?_) (by kernel_rfl) (by kernel_rfl) (by kernel_rfl) (fun _ _ _ h => h) hHeld (by rfl) ?_ ?_
          rotate_left; · (intro w hSw; (try dsimp only at hSw); go_simp; try with_reducible rfl)
          try simp only [Act.put, List.setIfInBounds_toArray, List.set_cons_zero, List.set_cons_succ]
          refine callH12 (by kernel_rfl) (fun K hK => ?_)
          go_simp
          refine hK.out _ _ (⟨keepS S31 (by show w.heap.size ≠ w1.heap.size; omega), keepS S32 (by show bb ≠ w1.heap.size; omega)⟩) (fun hHeld => ?_)
          clear hK K
          try simp only [Act.put, List.setIfInBounds_toArray, List.set_cons_zero, List.set_cons_succ]
          refine wpAnyH_done (by kernel_rfl) ?_ _
          have ch : Chg (fun b => b = w1.heap.size) w3 (w3.setCell ⟨w1.heap.size, 1, none⟩ (.slice Av3 (L.length + 1) cv3)) := Chg.set (w := w3) ⟨w1.heap.size, 1, none⟩ (.slice Av3 (L.length + 1) cv3)
          have bF : Box (w3.setCell ⟨w1.heap.size, 1, none⟩ (.slice Av3 (L.length + 1) cv3)) w1.heap.size 30 #[.slice Av0 z.1.length cv0, .slice Av3 (L.length + 1) cv3] := bR3.set_ 1 (.slice Av3 (L.length + 1) cv3)
          have hs2 := hb2.size
          have hs3 := hb3.size
          have hbF : Below w1.heap.size w1 (w3.setCell ⟨w1.heap.size, 1, none⟩ (.slice Av3 (L.length + 1) cv3)) := (hbr.trans ((hb2.mono (by omega)).trans (hb3.mono (by omega)))).trans (ch.below (by omega) (fun b hb => by omega))
          have fin : OArn (w3.setCell ⟨w1.heap.size, 1, none⟩ (.slice Av3 (L.length + 1) cv3)) (w1.heap.size + 1) (.slice none 0 0) (.slice Av3 (L.length + 1) cv3) ([], L ++ [gl z.2 k]) := by have h := ho3.chg ch (fun b hb => by omega); simpa using h
          have hsF := ch.size
          go_wp2
          go_roundw
          case rel => exact ⟨k + 1, _, _, by omega, by go_num, by rw [hX.out, ← HLk.out], fin, bF, hbF, by omega⟩
          case measure => simp [intOf]; omega
        · refine step_of_list (by rfl) (wp_appI (.tmp 19) (.tmp 24) (by rfl) (wD.alloc (.cells #[] 2)) wD.heap.size (.slice (some ⟨wD.heap.size, 0, none⟩) 0 0) [] (by rfl) hem A4 n4 c4 (gl z.2 k) (by rfl) hrE (by simp) (by omega) hbE.size ?_)
          intro u2 w2 ho2 hb2' hc2 hat2
          rw [List.nil_append] at ho2
          obtain ⟨Au, cu, rfl⟩ := ho2.form
          have hb2 : Below wD.heap.size wD w2 := hbE.trans hb2'
          have bX2 := bX.below hb2 (by omega)
          have bR2 := bR.below hb2 (by omega)
          have S1 : w2.cell? ⟨w.heap.size, 1, none⟩ = some (.slice (some ⟨bb, off, none⟩) n1 c1) := bX2.d1
          have S2 : w2.cell? ⟨bb, off + k, none⟩ = some (.slice A4 n4 c4) := (hb2.cell (by show bb < _; omega)).trans hc
          have k2 := bR2.d1
          have k2' : ∀ o, (w2.alloc o).cell? ⟨w1.heap.size, 1, none⟩ = some (.slice Av L.length cv) := fun o => keepA k2
          refine hK.out _ _ (⟨S1, S2⟩) (fun hHeld => ?_)
          clear hK K
          try simp only [Act.put, List.setIfInBounds_toArray, List.set_cons_zero, List.set_cons_succ]
          refine twoH_1_9 (by kernel_rfl) (fun K hK => ?_) (fun K hK => ?_)
          · go_simp
            refine hK.out _ _ (⟨S1, S2⟩) (fun hHeld => ?_)
            clear hK K
            try simp only [Act.put, List.setIfInBounds_toArray, List.set_cons_zero, List.set_cons_succ]
            refine callH9 (by kernel_rfl) (fun K hK => ?_)
            go_simp
            refine hK.out _ _ (⟨keepA S1, keepA S2⟩) (fun hHeld => ?_)
            clear hK K
            try simp only [Act.put, List.setIfInBounds_toArray, List.set_cons_zero, List.set_cons_succ]
            refine callH10 (by kernel_rfl) (fun K hK => ?_)
            refine step_of_list (by rfl) (wp_pushN (.tmp 18) (.tmp 26) (by rfl) wD w2 (w1.heap.size + 1) (.slice none 0 0) (.slice Av L.length cv) ([], L) (.slice Au (gl z.2 k).length cu) (gl z.2 k) (by rfl) (by rfl) hsr ho hb2 ho2 hlen ?_)
            intro v3 w3 ho3 hb3 hc3 hat3
            obtain ⟨_, _, Av3, cv3, h0e3, h1e3⟩ := ho3.form
            clear h0e3 hat3
            have h1e : v3 = .slice Av3 (L.length + 1) cv3 := by rw [h1e3]; simp
            subst h1e
            clear h1e3
            have bX3 := bX2.below hb3 (by omega)
            have bR3 := bR2.below hb3 (by omega)
            have S31 : w3.cell? ⟨w.heap.size, 1, none⟩ = some (.slice (some ⟨bb, off, none⟩) n1 c1) := bX3.d1
            have S32 : w3.cell? ⟨bb, off + k, none⟩ = some (.slice A4 n4 c4) := (hb3.cell (by show bb < _; omega)).trans S2
            have T1 := bR3.d1
            have F1 := bR3.hot 1
            refine hK.out _ _ (⟨S31, S32⟩) (fun hHeld => ?_)
            clear hK K
            try simp only [Act.put, List.setIfInBounds_toArray, List.set_cons_zero, List.set_cons_succ]
            refine takeH11 (v := ?_) (by kernel_rfl) (by kernel_rfl) (by kernel_rfl) (fun _ _ _ h => h) hHeld (by rfl) ?_ ?_
            rotate_left; · (intro w hSw; (try dsimp only at hSw); go_simp; try with_reducible rfl)
            try simp only [Act.put, List.setIfInBounds_toArray, List.set_cons_zero, List.set_cons_succ]
            refine callH12 (by kernel_rfl) (fun K hK => ?_)
            go_simp
            refine hK.out _ _ (⟨keepS S31 (by show w.heap.size ≠ w1.heap.size; omega), keepS S32 (by show bb ≠ w1.heap.size; omega)⟩) (fun hHeld => ?_)
            clear hK K
            try simp only [Act.put, List.setIfInBounds_toArray, List.set_cons_zero, List.set_cons_succ]
            refine wpAnyH_done (by kernel_rfl) ?_ _
            have ch : Chg (fun b => b = w1.heap.size) w3 (w3.setCell ⟨w1.heap.size, 1, none⟩ (.slice Av3 (L.length + 1) cv3)) := Chg.set (w := w3) ⟨w1.heap.size, 1, none⟩ (.slice Av3 (L.length + 1) cv3)
            have bF : Box (w3.setCell ⟨w1.heap.size, 1, none⟩ (.slice Av3 (L.length + 1) cv3)) w1.heap.size 30 #[.slice Av0 z.1.length cv0, .slice Av3 (L.length + 1) cv3] := bR3.set_ 1 (.slice Av3 (L.length + 1) cv3)
            have hs2 := hb2.size
            have hs3 := hb3.size
            have hbF : Below w1.heap.size w1 (w3.setCell ⟨w1.heap.size, 1, none⟩ (.slice Av3 (L.length + 1) cv3)) := (hbr.trans ((hb2.mono (by omega)).trans (hb3.mono (by omega)))).trans (ch.below (by omega) (fun b hb => by omega))
            have fin : OArn (w3.setCell ⟨w1.heap.size, 1, none⟩ (.slice Av3 (L.length + 1) cv3)) (w1.heap.size + 1) (.slice none 0 0) (.slice Av3 (L.length + 1) cv3) ([], L ++ [gl z.2 k]) := by have h := ho3.chg ch (fun b hb => by omega); simpa using h
            have hsF := ch.size
            go_wp2
            go_roundw
            case rel => exact ⟨k + 1, _, _, by omega, by go_num, by rw [hX.out, ← HLk.out], fin, bF, hbF, by omega⟩
            case measure => simp [intOf]; omega
          · go_simp
            refine hK.out _ _ (⟨keepA S1, keepA S2⟩) (fun hHeld => ?_)
            clear hK K
            try simp only [Act.put, List.setIfInBounds_toArray, List.set_cons_zero, List.set_cons_succ]
            refine callH1 (by kernel_rfl) (fun K hK => ?_)
            go_simp
            refine hK.out _ _ (⟨keepA S1, keepA S2⟩) (fun hHeld => ?_)
            clear hK K
            try simp only [Act.put, List.setIfInBounds_toArray, List.set_cons_zero, List.set_cons_succ]
            refine callH10 (by kernel_rfl) (fun K hK => ?_)
            refine step_of_list (by rfl) (wp_pushN (.tmp 18) (.tmp 26) (by rfl) wD w2 (w1.heap.size + 1) (.slice none 0 0) (.slice Av L.length cv) ([], L) (.slice Au (gl z.2 k).length cu) (gl z.2 k) (by rfl) (by rfl) hsr ho hb2 ho2 hlen ?_)
            intro v3 w3 ho3 hb3 hc3 hat3
            obtain ⟨_, _, Av3, cv3, h0e3, h1e3⟩ := ho3.form
            clear h0e3 hat3
            have h1e : v3 = .slice Av3 (L.length + 1) cv3 := by rw [h1e3]; simp
            subst h1e
            clear h1e3
            have bX3 := bX2.below hb3 (by omega)
            have bR3 := bR2.below hb3 (by omega)
            have S31 : w3.cell? ⟨w.heap.size, 1, none⟩ = some (.slice (some ⟨bb, off, none⟩) n1 c1) := bX3.d1
            have S32 : w3.cell? ⟨bb, off + k, none⟩ = some (.slice A4 n4 c4) := (hb3.cell (by show bb < _; omega)).trans S2
            have T1 := bR3.d1
            have F1 := bR3.hot 1
            refine hK.out _ _ (⟨S31, S32⟩) (fun hHeld => ?_)
            clear hK K
            try simp only [Act.put, List.setIfInBounds_toArray, List.set_cons_zero, List.set_cons_succ]
            refine takeH11 (v := ?_) (by kernel_rfl) (by kernel_rfl) (by kernel_rfl) (fun _ _ _ h => h) hHeld (by rfl) ?_ ?_
            rotate_left; · (intro w hSw; (try dsimp only at hSw); go_simp; try with_reducible rfl)
            try simp only [Act.put, List.setIfInBounds_toArray, List.set_cons_zero, List.set_cons_succ]
            refine callH12 (by kernel_rfl) (fun K hK => ?_)
            go_simp
            refine hK.out _ _ (⟨keepS S31 (by show w.heap.size ≠ w1.heap.size; omega), keepS S32 (by show bb ≠ w1.heap.size; omega)⟩) (fun hHeld => ?_)
            clear hK K
            try simp only [Act.put, List.setIfInBounds_toArray, List.set_cons_zero, List.set_cons_succ]
            refine wpAnyH_done (by kernel_rfl) ?_ _
            have ch : Chg (fun b => b = w1.heap.size) w3 (w3.setCell ⟨w1.heap.size, 1, none⟩ (.slice Av3 (L.length + 1) cv3)) := Chg.set (w := w3) ⟨w1.heap.size, 1, none⟩ (.slice Av3 (L.length + 1) cv3)
            have bF : Box (w3.setCell ⟨w1.heap.size, 1, none⟩ (.slice Av3 (L.length + 1) cv3)) w1.heap.size 30 #[.slice Av0 z.1.length cv0, .slice Av3 (L.length + 1) cv3] := bR3.set_ 1 (.slice Av3 (L.length + 1) cv3)
            have hs2 := hb2.size
            have hs3 := hb3.size
            have hbF : Below w1.heap.size w1 (w3.setCell ⟨w1.heap.size, 1, none⟩ (.slice Av3 (L.length + 1) cv3)) := (hbr.trans ((hb2.mono (by omega)).trans (hb3.mono (by omega)))).trans (ch.below (by omega) (fun b hb => by omega))
            have fin : OArn (w3.setCell ⟨w1.heap.size, 1, none⟩ (.slice Av3 (L.length + 1) cv3)) (w1.heap.size + 1) (.slice none 0 0) (.slice Av3 (L.length + 1) cv3) ([], L ++ [gl z.2 k]) := by have h := ho3.chg ch (fun b hb => by omega); simpa using h
            have hsF := ch.size
            go_wp2
            go_roundw
            case rel => exact ⟨k + 1, _, _, by omega, by go_num, by rw [hX.out, ← HLk.out], fin, bF, hbF, by omega⟩
            case measure => simp [intOf]; omega
    · obtain rfl : k = n1 := by omega
      have HE := Lib.hid (show z.2.take k = z.2 from List.take_of_length_le (by rw [HM.out]; omega))
      have p0 := bR.d0
      have p1 := bR.d1
      have brX := br1.below hbr (by omega)
      have e0 := brX.d0
      have e1 := brX.d1
      have f0 := brX.hot 0
      have f1 := brX.hot 1
      have ch : Chg (fun b => b = w.heap.size + 1) wr ((wr.setCell ⟨w.heap.size + 1, 0, none⟩ (.slice Av0 z.1.length cv0)).setCell ⟨w.heap.size + 1, 1, none⟩ (.slice Av L.length cv)) := (Chg.set (w := wr) ⟨w.heap.size + 1, 0, none⟩ (.slice Av0 z.1.length cv0)).trans (Chg.set ⟨w.heap.size + 1, 1, none⟩ (.slice Av L.length cv)) (U := fun b => b = w.heap.size + 1) (fun _ h => h) (fun _ h => h)
      have bF : Box ((wr.setCell ⟨w.heap.size + 1, 0, none⟩ (.slice Av0 z.1.length cv0)).setCell ⟨w.heap.size + 1, 1, none⟩ (.slice Av L.length cv)) (w.heap.size + 1) 30 #[.slice Av0 z.1.length cv0, .slice Av L.length cv] := (brX.set_ 0 (.slice Av0 z.1.length cv0)).set_ 1 (.slice Av L.length cv)
      have R0 := bF.d0
      have R1 := bF.d1
      have ho0 := (ho1.below hbr).more (lo' := w.heap.size + 2) hsL
      have hoE : OArn wr (w1.heap.size + 1) (.slice none 0 0) (.slice Av L.length cv) ([], z.2) := by rw [← HE.out, ← HLk.out]; exact ho
      have fo : OArn wr (w.heap.size + 2) (.slice Av0 z.1.length cv0) (.slice Av L.length cv) (z.1, z.2) := OArn.join hoE (Far.refl _ _) ho0 (by omega) (fun b hb => .inl (by have := (ho1.lt b hb).2; omega))
      have hwF : Below w.heap.size w ((wr.setCell ⟨w.heap.size + 1, 0, none⟩ (.slice Av0 z.1.length cv0)).setCell ⟨w.heap.size + 1, 1, none⟩ (.slice Av L.length cv)) := ((hwL.trans (hb1.mono (by omega))).trans (hbr.mono (by omega))).trans (ch.below (by omega) (fun b hb => by omega))
      have fin := fo.chg ch (fun b hb => by omega)
      go_wp2
      exact bodyPost_ret (v := .agg #[.slice Av0 z.1.length cv0, .slice Av L.length cv]) (by simp [results, Try.results21, go_sem, R0, R1]) rfl ⟨_, _, rfl, fin.more (by omega), hwF.mono hB⟩
end Go.Proofs.Ytefjhkcafcchlaa
