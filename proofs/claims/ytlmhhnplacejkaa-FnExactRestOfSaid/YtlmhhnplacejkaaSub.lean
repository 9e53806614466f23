/- SubgameOf. -/
import Derived.Test.YtlmhhnplacejkaaIns2
namespace Go.Proofs.Ytlmhhnplacejkaa
open Go.RowKit


set_option maxRecDepth 100000 in
set_option maxHeartbeats 3200000 in
theorem implSubgameOf (s0 s1 s2 : Value) (g : ParD) (C : Option Addr) (m d : Nat) (set : List Int) (w : World) (B : Nat) (hB : B ≤ w.heap.size) (hag : RPv w s0 s1 s2 g) (hs : RI w C m d set) :
    Calls Try.prog 99 #[.agg #[s0, s1, s2], .slice C m d] w fun e w' => ∃ t0 t1 t2, e = .returned (.tuple #[.agg #[t0, t1, t2], .bool (okSub g set)]) ∧ OPar w' B t0 t1 t2 (subG g set) ∧ Below B w w' := by
  obtain ⟨A0, n0, c0, A1, n1, c1, A2, n2, c2, rfl, rfl, rfl⟩ := hag.form
  have hrp := hag.rp
  have b1 := hag.ri.cap; have b2 := hag.ri.top; have b3 := hag.rii.cap; have b4 := hag.rii.top; have b5 := hs.cap; have b6 := hs.top; have b7 := hrp.cap; have b8 := hrp.top
  have HL := Lib.hid hag.ri.len; have HD := Lib.hid hs.len; have HP := Lib.hid hrp.len
  have hba : Below w.heap.size w ((w.alloc (.cells #[.slice A0 n0 c0, .slice A1 n1 c1, .slice A2 n2 c2] 33)).alloc (.cells #[.slice none 0 0, .slice none 0 0, .slice none 0 0] 33)) := below_alloc (Nat.le_refl _) (below_alloc (Nat.le_refl _) (Below.refl _ _))
  have bxL := (Box.new w 33 #[.slice A0 n0 c0, .slice A1 n1 c1, .slice A2 n2 c2]).alloc (.cells #[.slice none 0 0, .slice none 0 0, .slice none 0 0] 33)
  have brL : Box ((w.alloc (.cells #[.slice A0 n0 c0, .slice A1 n1 c1, .slice A2 n2 c2] 33)).alloc (.cells #[.slice none 0 0, .slice none 0 0, .slice none 0 0] 33)) (w.heap.size + 1) 33 #[.slice none 0 0, .slice none 0 0, .slice none 0 0] := Box.new' (by simp)
  have q0 := bxL.c0; have q1 := bxL.c1; have q2 := bxL.c2
  cases hp : parB g with
  | false =>
    have E := Lib.hid (okSub_no1 (set := set) hp)
    have E2 := Lib.hid (subG_no E.out)
    have HPB := Lib.hid hp
    clear hp
    go_enter Try.func99, Try.ntmps99
    go_wp2_with fail
    refine (implParityOk _ _ _ g _ _ (Nat.le_refl _) (hag.keep (keeps_below hba))).mono ?_; rintro e w1 ⟨rfl, hb1⟩
    rw [HPB.out]
    have hw1 := below_then hb1 hba.size hba
    have br1 := brL.on hb1
    clear q0 q1 q2 bxL brL
    have z0 := br1.c0; have z1 := br1.c1; have z2 := br1.c2; have y0 := br1.hot 0; have y1 := br1.hot 1; have y2 := br1.hot 2
    go_wp2
    obtain ⟨hwZ, bxZ⟩ := zero3 hw1 (by omega) br1 (.slice none 0 0) (.slice none 0 0) (.slice none 0 0)
    have R0 := bxZ.c0; have R1 := bxZ.c1; have R2 := bxZ.c2
    exact bodyPost_ret (v := .tuple #[.agg #[.slice none 0 0, .slice none 0 0, .slice none 0 0], .bool false]) (by simp [results, Try.results99, go_sem, R0, R1, R2]) rfl ⟨_, _, _, by rw [E.out], by rw [E2.out]; exact OPar.nil _ _, hwZ.mono hB⟩
  | true =>
    have HPB := Lib.hid hp
    clear hp
    go_enter Try.func99, Try.ntmps99
    go_wp2_with fail
    refine (implParityOk _ _ _ g _ _ (Nat.le_refl _) (hag.keep (keeps_below hba))).mono ?_; rintro e w1 ⟨rfl, hb1⟩
    rw [HPB.out]
    have hw1 := below_then hb1 hba.size hba
    have bx1 := bxL.on hb1; have br1 := brL.on hb1
    have hlo1 : w.heap.size + 2 ≤ w1.heap.size := br1.lt
    clear q0 q1 q2 bxL brL hba hb1
    have q0 := bx1.c0; have q1 := bx1.c1; have q2 := bx1.c2
    go_wp2_with fail
    refine (implInsideOf _ _ _ _ _ g.1 g.2.1 set _ _ (Nat.le_refl _) (hag.keep (keeps_below hw1)).1 (hs.keep (keeps_below hw1))).mono ?_; rintro e w2 ⟨t0, t1, rfl, ho2, hb2⟩
    have hlo := hb2.size
    have hw2 := below_then hb2 hw1.size hw1
    have hX2 := bx1.on hb2; have hZ2 := br1.on hb2
    clear q0 q1 q2 bx1 br1
    cases hin : okIns g.1 g.2.1 set with
    | false =>
      have E := Lib.hid (okSub_no2 (g := g) hin)
      have E2 := Lib.hid (subG_no E.out)
      have hbA : Below w2.heap.size w2 (w2.alloc (.cells #[t0, t1] 30)) := below_alloc (Nat.le_refl _) (Below.refl _ _)
      have hwA := below_then hbA hw2.size hw2
      have hZA := hZ2.on hbA
      obtain ⟨T0, e0, T1, e1, rfl, rfl⟩ := ho2.form
      clear hin
      have z0 := hZA.c0; have z1 := hZA.c1; have z2 := hZA.c2; have y0 := hZA.hot 0; have y1 := hZA.hot 1; have y2 := hZA.hot 2
      go_wp2
      obtain ⟨hwZ, bxZ⟩ := zero3 hwA (by omega) hZA (.slice none 0 0) (.slice none 0 0) (.slice none 0 0)
      have R0 := bxZ.c0; have R1 := bxZ.c1; have R2 := bxZ.c2
      exact bodyPost_ret (v := .tuple #[.agg #[.slice none 0 0, .slice none 0 0, .slice none 0 0], .bool false]) (by simp [results, Try.results99, go_sem, R0, R1, R2]) rfl ⟨_, _, _, by rw [E.out], by rw [E2.out]; exact OPar.nil _ _, hwZ.mono hB⟩
    | true =>
      have HIN := Lib.hid hin
      clear hin
      have hf := finePar_of HPB.out
      have hp0 := okIns_parts HIN.out
      have H2 := Lib.hid hp0.2.1
      have E := Lib.hid (okSub_yes HPB.out HIN.out)
      have E2 := Lib.hid (show subG g set = ((insA g.1 g.2.1 set).1, (insA g.1 g.2.1 set).2, fill (fun i => gi g.2.2 (gi set i).toNat) m) by rw [subG_yes E.out, insA_yes HIN.out]; unfold subP; rw [HD.out])
      have hml : m ≤ 256 := by have h1 := set_len H2.out (by omega); rw [HD.out] at h1; have := hf.1.2.1; omega
      have H20 := Lib.hid (show n2 = g.1.length by rw [← HP.out]; exact hf.2.1)
      have HF := Lib.hid hf
      clear hf hp0
      obtain ⟨T0, e0, T1, e1, rfl, rfl⟩ := ho2.form
      have HO2 := Lib.hid ho2
      have bG : Box ((w2.alloc (.cells #[.slice T0 (insA g.1 g.2.1 set).1.length e0, .slice T1 (insA g.1 g.2.1 set).2.length e1] 30)).alloc (.cells #[.slice T0 (insA g.1 g.2.1 set).1.length e0, .slice T1 (insA g.1 g.2.1 set).2.length e1, .slice none 0 0] 33)) (w2.heap.size + 1) 33 #[.slice T0 (insA g.1 g.2.1 set).1.length e0, .slice T1 (insA g.1 g.2.1 set).2.length e1, .slice none 0 0] := Box.new' (by simp)
      have hlow : Below w2.heap.size w2 ((w2.alloc (.cells #[.slice T0 (insA g.1 g.2.1 set).1.length e0, .slice T1 (insA g.1 g.2.1 set).2.length e1] 30)).alloc (.cells #[.slice T0 (insA g.1 g.2.1 set).1.length e0, .slice T1 (insA g.1 g.2.1 set).2.length e1, .slice none 0 0] 33)) := below_alloc (Nat.le_refl _) (below_alloc (Nat.le_refl _) (Below.refl _ _))
      have hxl := hX2.lt; have hzl := hZ2.lt
      clear ho2
      go_wp2
      go_loopw [29] (fun i wr => ∃ (k : Nat) (u2 : Value), k ≤ m ∧ i = .int .i64 k ∧ OI 2 wr (w2.heap.size + 2) u2 (fill (fun i => gi g.2.2 (gi set i).toNat) k) ∧ Box wr (w2.heap.size + 1) 33 #[.slice T0 (insA g.1 g.2.1 set).1.length e0, .slice T1 (insA g.1 g.2.1 set).2.length e1, u2] ∧ Below w2.heap.size w2 wr) (fun i _ => m - (intOf i).toNat)
      case atStart => exact ⟨0, _, Nat.zero_le _, rfl, OI.nil _ _ _, bG, hlow⟩
      case round =>
        clear bG hlow
        obtain ⟨k, u2, hk, rfl, ho, bG, hlow⟩ := hrel
        have hwr := below_then hlow hw2.size hw2
        have hX := hX2.on hlow
        obtain ⟨U2, e2, hu⟩ := ho.form
        rw [fill_len] at hu
        subst hu
        by_cases hlt : k < m
        · obtain ⟨bd, od_, rfl, hckd⟩ := hs.at_ hlt
          have hbd := setB_true.1 H2.out k (by rw [HD.out]; exact hlt)
          obtain ⟨v, hv⟩ := Int.eq_ofNat_of_zero_le hbd.1
          have hvn : v < n2 := by have := hbd.2.1; have := H20.out; omega
          rw [hv] at hckd
          have HV := Lib.hid hv
          clear hbd hv
          obtain ⟨bp, op, rfl, hckp⟩ := hrp.at_ hvn
          have lo_ := cell_lt hckp; have ld_ := cell_lt hckd
          have kp := below_cell hwr hckp; have kd := below_cell hwr hckd
          have hki : (k : Int) < (m : Int) := by omega
          have hk0 : (0 : Int) ≤ (k : Int) := by omega
          have hvi : (v : Int) < (n2 : Int) := by omega
          have hv0 : (0 : Int) ≤ (v : Int) := by omega
          have q2 := hX.c2
          have HN := Lib.hid (show fill (fun i => gi g.2.2 (gi set i).toNat) (k + 1) = (fill (fun i => gi g.2.2 (gi set i).toNat) k) ++ [gi g.2.2 v] by rw [fill_succ, HV.out]; simp)
          go_wp2_with fail
          refine wp_region_held_drew (S := (fun w' => w'.cell? ⟨w.heap.size, 2, none⟩ = some (.slice (some ⟨bp, op, none⟩) n2 c2) ∧ w'.cell? ⟨bp, op + v, none⟩ = some (.int .i64 (gi g.2.2 v)))) (by kernel_rfl) (⟨q2, kp⟩) (fun hHeld => ?_)
          replace ho := ho.drew
          replace bG : Box wr.drew (w2.heap.size + 1) 33 #[.slice T0 (insA g.1 g.2.1 set).1.length e0, .slice T1 (insA g.1 g.2.1 set).2.length e1, .slice U2 k e2] := bG
          replace hlow := Below.drew hlow
          replace q2 : wr.drew.cell? ⟨w.heap.size, 2, none⟩ = some (.slice (some ⟨bp, op, none⟩) n2 c2) := q2
          replace kp : wr.drew.cell? ⟨bp, op + v, none⟩ = some (.int .i64 (gi g.2.2 v)) := kp
          generalize wr.drew = wd at *
          have g0 := bG.c2
          refine takeH0 (v := ?_) (by kernel_rfl) (by kernel_rfl) (by kernel_rfl) (fun _ _ _ h => h) hHeld (by rfl) ?_ ?_
          rotate_left; · (intro w hSw; (try dsimp only at hSw); go_simp; try with_reducible rfl)
          try simp only [Act.put, List.setIfInBounds_toArray, List.set_cons_zero, List.set_cons_succ]
          refine takeH2 (v := ?_) (by kernel_rfl) (by kernel_rfl) (by kernel_rfl) (fun _ _ _ h => h) hHeld (by rfl) ?_ ?_
          rotate_left; · (intro w hSw; (try dsimp only at hSw); go_simp; try with_reducible rfl)
          try simp only [Act.put, List.setIfInBounds_toArray, List.set_cons_zero, List.set_cons_succ]
          refine takeH3 (v := ?_) (by kernel_rfl) (by kernel_rfl) (by kernel_rfl) (fun _ _ _ h => h) hHeld (by rfl) ?_ ?_
          rotate_left; · (intro w hSw; (try dsimp only at hSw); go_simp; try with_reducible rfl)
          try simp only [Act.put, List.setIfInBounds_toArray, List.set_cons_zero, List.set_cons_succ]
          refine takeH4 (v := ?_) (by kernel_rfl) (by kernel_rfl) (by kernel_rfl) (fun _ _ _ h => h) hHeld (by rfl) ?_ ?_
          rotate_left; · (intro w hSw; (try dsimp only at hSw); go_simp; try with_reducible rfl)
          try simp only [Act.put, List.setIfInBounds_toArray, List.set_cons_zero, List.set_cons_succ]
          refine takeH5 (v := ?_) (by kernel_rfl) (by kernel_rfl) (by kernel_rfl) (fun _ _ _ h => h) hHeld (by rfl) ?_ ?_
          rotate_left; · (intro w hSw; (try dsimp only at hSw); go_simp; try with_reducible rfl)
          try simp only [Act.put, List.setIfInBounds_toArray, List.set_cons_zero, List.set_cons_succ]
          refine takeH6 (v := ?_) (by kernel_rfl) (by kernel_rfl) (by kernel_rfl) (fun _ _ _ h => h) hHeld (by rfl) ?_ ?_
          rotate_left; · (intro w hSw; (try dsimp only at hSw); go_simp; try with_reducible rfl)
          try simp only [Act.put, List.setIfInBounds_toArray, List.set_cons_zero, List.set_cons_succ]
          refine twoH_1_7 (by kernel_rfl) (fun K hK => ?_) (fun K hK => ?_)
          · go_simp
            refine hK.out _ _ (⟨q2, kp⟩) (fun hHeld => ?_)
            clear hK K
            try simp only [Act.put, List.setIfInBounds_toArray, List.set_cons_zero, List.set_cons_succ]
            refine callH7 (by kernel_rfl) (fun K hK => ?_)
            have q2A : (wd.alloc (.cells #[.int .i64 (gi g.2.2 v)] 2)).cell? ⟨w.heap.size, 2, none⟩ = some (.slice (some ⟨bp, op, none⟩) n2 c2) := keepA q2
            have kpA : (wd.alloc (.cells #[.int .i64 (gi g.2.2 v)] 2)).cell? ⟨bp, op + v, none⟩ = some (.int .i64 (gi g.2.2 v)) := keepA kp
            go_simp
            refine hK.out _ _ (⟨q2A, kpA⟩) (fun hHeld => ?_)
            clear hK K
            try simp only [Act.put, List.setIfInBounds_toArray, List.set_cons_zero, List.set_cons_succ]
            refine callH8 (by kernel_rfl) (fun K hK => ?_)
            have hq1 : RI (wd.alloc (.cells #[.int .i64 (gi g.2.2 v)] 2)) (some ⟨wd.heap.size, 0, none⟩) 1 1 [gi g.2.2 v] := RI.one1 ((Box.new wd 2 #[.int .i64 (gi g.2.2 v)]).cell 0)
            have hbA : Below wd.heap.size wd (wd.alloc (.cells #[.int .i64 (gi g.2.2 v)] 2)) := below_alloc (Nat.le_refl _) (Below.refl _ _)
            have hoA := ho.below hbA
            have bGA : Box (wd.alloc (.cells #[.int .i64 (gi g.2.2 v)] 2)) (w2.heap.size + 1) 33 #[.slice T0 (insA g.1 g.2.1 set).1.length e0, .slice T1 (insA g.1 g.2.1 set).2.length e1, .slice U2 k e2] := bG.alloc _
            have hlA : (w2.heap.size + 2) ≤ (wd.alloc (.cells #[.int .i64 (gi g.2.2 v)] 2)).heap.size := bGA.lt
            have hlowA := below_then hbA hlow.size hlow
            refine step_of_list (by rfl) (wp_appI (.tmp 34) (.tmp 40) (by rfl) (wd.alloc (.cells #[.int .i64 (gi g.2.2 v)] 2)) (w2.heap.size + 2) (.slice U2 k e2) (fill (fun i => gi g.2.2 (gi set i).toNat) k) (by rfl) hoA (some ⟨wd.heap.size, 0, none⟩) 1 1 [gi g.2.2 v] (by rfl) hq1 (by rw [fill_len]; omega) (by omega) hlA ?_)
            intro v7 w7 ho7 hb7 hc7 hat7
            obtain ⟨A7, c7, h7e⟩ := ho7.form
            have h7f : v7 = .slice A7 (k + 1) c7 := by rw [h7e, List.length_append, fill_len]; rfl
            clear h7e
            subst h7f
            have bG7 : Box w7 (w2.heap.size + 1) 33 #[.slice T0 (insA g.1 g.2.1 set).1.length e0, .slice T1 (insA g.1 g.2.1 set).2.length e1, .slice U2 k e2] := bGA.below hb7 (by omega)
            have hlow7 : Below w2.heap.size w2 w7 := hlowA.trans (hb7.mono (by omega))
            have hX7 := hX2.on hlow7
            have hw7 := below_then hlow7 hw2.size hw2
            have g7 := bG7.c2
            have f7 := bG7.hot 2
            have q2 := hX7.c2
            have kp := below_cell hw7 hckp
            clear hoA bGA hlowA hq1 hbA hat7
            refine hK.out _ _ (⟨q2, kp⟩) (fun hHeld => ?_)
            clear hK K
            try simp only [Act.put, List.setIfInBounds_toArray, List.set_cons_zero, List.set_cons_succ]
            refine takeH9 (v := ?_) (by kernel_rfl) (by kernel_rfl) (by kernel_rfl) (fun _ _ _ h => h) hHeld (by rfl) ?_ ?_
            rotate_left; · (intro w hSw; (try dsimp only at hSw); go_simp; try with_reducible rfl)
            try simp only [Act.put, List.setIfInBounds_toArray, List.set_cons_zero, List.set_cons_succ]
            refine callH10 (by kernel_rfl) (fun K hK => ?_)
            have ch8 : Chg (fun y => y = (w2.heap.size + 1)) w7 (w7.setCell ⟨(w2.heap.size + 1), 2, none⟩ (.slice A7 (k + 1) c7)) := Chg.set ⟨(w2.heap.size + 1), 2, none⟩ (.slice A7 (k + 1) c7)
            have hlow8 : Below w2.heap.size w2 (w7.setCell ⟨(w2.heap.size + 1), 2, none⟩ (.slice A7 (k + 1) c7)) := below_set (by show w2.heap.size ≤ w2.heap.size + 1; omega) hlow7
            have hX8 := hX2.on hlow8
            have hw8 := below_then hlow8 hw2.size hw2
            have ho8 := ho7.chg ch8 (fun y hy e => by have h3 : y = w2.heap.size + 1 := e; have := (ho7.lt y hy).1; omega)
            have bG8 : Box (w7.setCell ⟨(w2.heap.size + 1), 2, none⟩ (.slice A7 (k + 1) c7)) (w2.heap.size + 1) 33 #[.slice T0 (insA g.1 g.2.1 set).1.length e0, .slice T1 (insA g.1 g.2.1 set).2.length e1, .slice A7 (k + 1) c7] := by have := bG7.set_ 2 (.slice A7 (k + 1) c7); simpa using this
            have q2 := hX8.c2
            have kp := below_cell hw8 hckp
            go_simp
            refine hK.out _ _ (⟨q2, kp⟩) (fun hHeld => ?_)
            clear hK K
            try simp only [Act.put, List.setIfInBounds_toArray, List.set_cons_zero, List.set_cons_succ]
            refine wpAnyH_done (by kernel_rfl) ?_ _
            have HO8 := Lib.hid ho8; have HB8 := Lib.hid bG8; have HL8 := Lib.hid hlow8
            clear ho8 bG8 hlow8
            go_wp2
            exact ⟨⟨k + 1, _, by omega, by go_num, by rw [HN.out]; exact HO8.out, HB8.out, HL8.out⟩, by simp [intOf]; omega⟩
          · have q2A : (wd.alloc (.cells #[.int .i64 (gi g.2.2 v)] 2)).cell? ⟨w.heap.size, 2, none⟩ = some (.slice (some ⟨bp, op, none⟩) n2 c2) := keepA q2
            have kpA : (wd.alloc (.cells #[.int .i64 (gi g.2.2 v)] 2)).cell? ⟨bp, op + v, none⟩ = some (.int .i64 (gi g.2.2 v)) := keepA kp
            have g0A : ∀ o, (wd.alloc o).cell? ⟨(w2.heap.size + 1), 2, none⟩ = some (.slice U2 k e2) := fun o => keepA g0
            go_simp
            refine hK.out _ _ (⟨q2A, kpA⟩) (fun hHeld => ?_)
            clear hK K
            try simp only [Act.put, List.setIfInBounds_toArray, List.set_cons_zero, List.set_cons_succ]
            refine callH1 (by kernel_rfl) (fun K hK => ?_)
            go_simp
            refine hK.out _ _ (⟨q2A, kpA⟩) (fun hHeld => ?_)
            clear hK K
            try simp only [Act.put, List.setIfInBounds_toArray, List.set_cons_zero, List.set_cons_succ]
            refine callH8 (by kernel_rfl) (fun K hK => ?_)
            have hq1 : RI (wd.alloc (.cells #[.int .i64 (gi g.2.2 v)] 2)) (some ⟨wd.heap.size, 0, none⟩) 1 1 [gi g.2.2 v] := RI.one1 ((Box.new wd 2 #[.int .i64 (gi g.2.2 v)]).cell 0)
            have hbA : Below wd.heap.size wd (wd.alloc (.cells #[.int .i64 (gi g.2.2 v)] 2)) := below_alloc (Nat.le_refl _) (Below.refl _ _)
            have hoA := ho.below hbA
            have bGA : Box (wd.alloc (.cells #[.int .i64 (gi g.2.2 v)] 2)) (w2.heap.size + 1) 33 #[.slice T0 (insA g.1 g.2.1 set).1.length e0, .slice T1 (insA g.1 g.2.1 set).2.length e1, .slice U2 k e2] := bG.alloc _
            have hlA : (w2.heap.size + 2) ≤ (wd.alloc (.cells #[.int .i64 (gi g.2.2 v)] 2)).heap.size := bGA.lt
            have hlowA := below_then hbA hlow.size hlow
            refine step_of_list (by rfl) (wp_appI (.tmp 34) (.tmp 40) (by rfl) (wd.alloc (.cells #[.int .i64 (gi g.2.2 v)] 2)) (w2.heap.size + 2) (.slice U2 k e2) (fill (fun i => gi g.2.2 (gi set i).toNat) k) (by rfl) hoA (some ⟨wd.heap.size, 0, none⟩) 1 1 [gi g.2.2 v] (by rfl) hq1 (by rw [fill_len]; omega) (by omega) hlA ?_)
            intro v7 w7 ho7 hb7 hc7 hat7
            obtain ⟨A7, c7, h7e⟩ := ho7.form
            have h7f : v7 = .slice A7 (k + 1) c7 := by rw [h7e, List.length_append, fill_len]; rfl
            clear h7e
            subst h7f
            have bG7 : Box w7 (w2.heap.size + 1) 33 #[.slice T0 (insA g.1 g.2.1 set).1.length e0, .slice T1 (insA g.1 g.2.1 set).2.length e1, .slice U2 k e2] := bGA.below hb7 (by omega)
            have hlow7 : Below w2.heap.size w2 w7 := hlowA.trans (hb7.mono (by omega))
            have hX7 := hX2.on hlow7
            have hw7 := below_then hlow7 hw2.size hw2
            have g7 := bG7.c2
            have f7 := bG7.hot 2
            have q2 := hX7.c2
            have kp := below_cell hw7 hckp
            clear hoA bGA hlowA hq1 hbA hat7
            refine hK.out _ _ (⟨q2, kp⟩) (fun hHeld => ?_)
            clear hK K
            try simp only [Act.put, List.setIfInBounds_toArray, List.set_cons_zero, List.set_cons_succ]
            refine takeH9 (v := ?_) (by kernel_rfl) (by kernel_rfl) (by kernel_rfl) (fun _ _ _ h => h) hHeld (by rfl) ?_ ?_
            rotate_left; · (intro w hSw; (try dsimp only at hSw); go_simp; try with_reducible rfl)
            try simp only [Act.put, List.setIfInBounds_toArray, List.set_cons_zero, List.set_cons_succ]
            refine callH10 (by kernel_rfl) (fun K hK => ?_)
            have ch8 : Chg (fun y => y = (w2.heap.size + 1)) w7 (w7.setCell ⟨(w2.heap.size + 1), 2, none⟩ (.slice A7 (k + 1) c7)) := Chg.set ⟨(w2.heap.size + 1), 2, none⟩ (.slice A7 (k + 1) c7)
            have hlow8 : Below w2.heap.size w2 (w7.setCell ⟨(w2.heap.size + 1), 2, none⟩ (.slice A7 (k + 1) c7)) := below_set (by show w2.heap.size ≤ w2.heap.size + 1; omega) hlow7
            have hX8 := hX2.on hlow8
            have hw8 := below_then hlow8 hw2.size hw2
            have ho8 := ho7.chg ch8 (fun y hy e => by have h3 : y = w2.heap.size + 1 := e; have := (ho7.lt y hy).1; omega)
            have bG8 : Box (w7.setCell ⟨(w2.heap.size + 1), 2, none⟩ (.slice A7 (k + 1) c7)) (w2.heap.size + 1) 33 #[.slice T0 (insA g.1 g.2.1 set).1.length e0, .slice T1 (insA g.1 g.2.1 set).2.length e1, .slice A7 (k + 1) c7] := by have := bG7.set_ 2 (.slice A7 (k + 1) c7); simpa using this
            have q2 := hX8.c2
            have kp := below_cell hw8 hckp
            go_simp
            refine hK.out _ _ (⟨q2, kp⟩) (fun hHeld => ?_)
            clear hK K
            try simp only [Act.put, List.setIfInBounds_toArray, List.set_cons_zero, List.set_cons_succ]
            refine wpAnyH_done (by kernel_rfl) ?_ _
            have HO8 := Lib.hid ho8; have HB8 := Lib.hid bG8; have HL8 := Lib.hid hlow8
            clear ho8 bG8 hlow8
            go_wp2
            exact ⟨⟨k + 1, _, by omega, by go_num, by rw [HN.out]; exact HO8.out, HB8.out, HL8.out⟩, by simp [intOf]; omega⟩
        · obtain rfl : k = m := by omega
          have g0 := bG.c0; have g1 := bG.c1; have g2 := bG.c2
          have hZ := hZ2.on hlow
          have z0 := hZ.c0; have z1 := hZ.c1; have z2 := hZ.c2; have y0 := hZ.hot 0; have y1 := hZ.hot 1; have y2 := hZ.hot 2
          obtain ⟨hF2, hF3⟩ := zero3 hwr (Nat.le_succ _) hZ (.slice T0 (insA g.1 g.2.1 set).1.length e0) (.slice T1 (insA g.1 g.2.1 set).2.length e1) (.slice U2 k e2)
          have R0 := hF3.c0; have R1 := hF3.c1; have R2 := hF3.c2
          have chF := ((Chg.refl (fun y => y = w.heap.size + 1) w2).then_below hlow (Nat.le_refl _)).push (Chg.set3 wr (w.heap.size + 1) (.slice T0 (insA g.1 g.2.1 set).1.length e0) (.slice T1 (insA g.1 g.2.1 set).2.length e1) (.slice U2 k e2)) (fun x hx => .inl hx)
          have ho3 := ho.chg (Chg.set3 wr (w.heap.size + 1) (.slice T0 (insA g.1 g.2.1 set).1.length e0) (.slice T1 (insA g.1 g.2.1 set).2.length e1) (.slice U2 k e2)) (fun y hy e => by have h3 : y = w.heap.size + 1 := e; have := (ho.lt y hy).1; omega)
          have hoF := OPar.ofArn HO2.out hlo chF (fun y hy => by have h3 : y = w.heap.size + 1 := hy; omega) (ho3.more (by omega))
          go_wp2
          exact bodyPost_ret (v := .tuple #[.agg #[.slice T0 (insA g.1 g.2.1 set).1.length e0, .slice T1 (insA g.1 g.2.1 set).2.length e1, .slice U2 k e2], .bool true]) (by simp [results, Try.results99, go_sem, R0, R1, R2]) rfl ⟨_, _, _, by rw [E.out], by rw [E2.out]; exact hoF.more (by omega), hF2.mono hB⟩


set_option maxRecDepth 100000 in
set_option maxHeartbeats 3200000 in
theorem specSubgameOf (s0 s1 s2 : Value) (g : ParD) (C : Option Addr) (m d : Nat) (set : List Int) (w : World) (B : Nat) (hB : B ≤ w.heap.size) (hag : RPv w s0 s1 s2 g) (hs : RI w C m d set) :
    Calls Try.prog 92 #[.agg #[s0, s1, s2], .slice C m d] w fun e w' => ∃ t0 t1 t2, e = .returned (.tuple #[.agg #[t0, t1, t2], .bool (okSub g set)]) ∧ OPar w' B t0 t1 t2 (subG g set) ∧ Below B w w' := by
  obtain ⟨A0, n0, c0, A1, n1, c1, A2, n2, c2, rfl, rfl, rfl⟩ := hag.form
  have hrp := hag.rp
  have b1 := hag.ri.cap; have b2 := hag.ri.top; have b3 := hag.rii.cap; have b4 := hag.rii.top; have b5 := hs.cap; have b6 := hs.top; have b7 := hrp.cap; have b8 := hrp.top
  have HL := Lib.hid hag.ri.len; have HD := Lib.hid hs.len; have HP := Lib.hid hrp.len
  have hba : Below w.heap.size w ((w.alloc (.cells #[.slice A0 n0 c0, .slice A1 n1 c1, .slice A2 n2 c2] 33)).alloc (.cells #[.slice none 0 0, .slice none 0 0, .slice none 0 0] 33)) := below_alloc (Nat.le_refl _) (below_alloc (Nat.le_refl _) (Below.refl _ _))
  have bxL := (Box.new w 33 #[.slice A0 n0 c0, .slice A1 n1 c1, .slice A2 n2 c2]).alloc (.cells #[.slice none 0 0, .slice none 0 0, .slice none 0 0] 33)
  have brL : Box ((w.alloc (.cells #[.slice A0 n0 c0, .slice A1 n1 c1, .slice A2 n2 c2] 33)).alloc (.cells #[.slice none 0 0, .slice none 0 0, .slice none 0 0] 33)) (w.heap.size + 1) 33 #[.slice none 0 0, .slice none 0 0, .slice none 0 0] := Box.new' (by simp)
  have q0 := bxL.c0; have q1 := bxL.c1; have q2 := bxL.c2
  have hlo1 : w.heap.size + 2 ≤ ((w.alloc (.cells #[.slice A0 n0 c0, .slice A1 n1 c1, .slice A2 n2 c2] 33)).alloc (.cells #[.slice none 0 0, .slice none 0 0, .slice none 0 0] 33)).heap.size := by simp
  go_enter Try.func92, Try.ntmps92
  go_wp2_with fail
  generalize ((w.alloc (.cells #[.slice A0 n0 c0, .slice A1 n1 c1, .slice A2 n2 c2] 33)).alloc (.cells #[.slice none 0 0, .slice none 0 0, .slice none 0 0] 33)) = w1 at *
  have hw1 := hba
  refine (specInsideOf _ _ _ _ _ g.1 g.2.1 set _ _ (Nat.le_refl _) (hag.keep (keeps_below hw1)).1 (hs.keep (keeps_below hw1))).mono ?_; rintro e w3 ⟨t0, t1, rfl, ho3, hb3⟩
  have hw3 := below_then hb3 hw1.size hw1
  have hX3 := bxL.on hb3; have hZ3 := brL.on hb3
  have hlo3 := hb3.size
  clear q0 q1 q2 hba
  obtain ⟨T0, e0, T1, e1, rfl, rfl⟩ := ho3.form
  have hbA : Below w3.heap.size w3 (w3.alloc (.cells #[.slice T0 (insA g.1 g.2.1 set).1.length e0, .slice T1 (insA g.1 g.2.1 set).2.length e1] 30)) := below_alloc (Nat.le_refl _) (Below.refl _ _)
  have bA := Box.new w3 30 #[.slice T0 (insA g.1 g.2.1 set).1.length e0, .slice T1 (insA g.1 g.2.1 set).2.length e1]
  have hwA := below_then hbA hw3.size hw3
  have hXA := hX3.on hbA; have hZA := hZ3.on hbA
  cases hin : okIns g.1 g.2.1 set with
  | false =>
    have E := Lib.hid (okSub_no2 (g := g) hin)
    have E2 := Lib.hid (subG_no E.out)
    clear hin hX3 hZ3
    have z0 := hZA.c0; have z1 := hZA.c1; have z2 := hZA.c2; have y0 := hZA.hot 0; have y1 := hZA.hot 1; have y2 := hZA.hot 2
    go_wp2
    obtain ⟨hwZ, bxZ⟩ := zero3 hwA (by omega) hZA (.slice none 0 0) (.slice none 0 0) (.slice none 0 0)
    have R0 := bxZ.c0; have R1 := bxZ.c1; have R2 := bxZ.c2
    exact bodyPost_ret (v := .tuple #[.agg #[.slice none 0 0, .slice none 0 0, .slice none 0 0], .bool false]) (by simp [results, Try.results92, go_sem, R0, R1, R2]) rfl ⟨_, _, _, by rw [E.out], by rw [E2.out]; exact OPar.nil _ _, hwZ.mono hB⟩
  | true =>
    have HIN := Lib.hid hin
    clear hin
    have q0 := hXA.c0; have q1 := hXA.c1; have q2 := hXA.c2
    cases hp : parB g with
    | false =>
      have E := Lib.hid (okSub_no1 (set := set) hp)
      have E2 := Lib.hid (subG_no E.out)
      have HPB := Lib.hid hp
      clear hp
      go_wp2_with fail
      refine (specParityOk _ _ _ g _ _ (Nat.le_refl _) (hag.keep (keeps_below hwA))).mono ?_; rintro e w4 ⟨rfl, hb4⟩
      rw [HPB.out]
      have hw4 := below_then hb4 hwA.size hwA
      have hZ4 := hZA.on hb4
      clear q0 q1 q2 hZA hXA
      have z0 := hZ4.c0; have z1 := hZ4.c1; have z2 := hZ4.c2; have y0 := hZ4.hot 0; have y1 := hZ4.hot 1; have y2 := hZ4.hot 2
      go_wp2
      obtain ⟨hwZ, bxZ⟩ := zero3 hw4 (by omega) hZ4 (.slice none 0 0) (.slice none 0 0) (.slice none 0 0)
      have R0 := bxZ.c0; have R1 := bxZ.c1; have R2 := bxZ.c2
      exact bodyPost_ret (v := .tuple #[.agg #[.slice none 0 0, .slice none 0 0, .slice none 0 0], .bool false]) (by simp [results, Try.results92, go_sem, R0, R1, R2]) rfl ⟨_, _, _, by rw [E.out], by rw [E2.out]; exact OPar.nil _ _, hwZ.mono hB⟩
    | true =>
      have HPB := Lib.hid hp
      clear hp
      go_wp2_with fail
      refine (specParityOk _ _ _ g _ _ (Nat.le_refl _) (hag.keep (keeps_below hwA))).mono ?_; rintro e w2 ⟨rfl, hb4⟩
      rw [HPB.out]
      have hw2 := below_then hb4 hwA.size hwA
      have hX2 := hXA.on hb4; have hZ2 := hZA.on hb4
      have ho2 := (ho3.below hbA).below hb4
      have bA2 := bA.on hb4
      have a0 := bA2.d0; have a1 := bA2.d1
      have hlo : w1.heap.size ≤ w2.heap.size := by have := hbA.size; have := hb4.size; omega
      clear q0 q1 q2 hZA hXA bA hX3 hZ3 ho3 hb3 hbA hb4 hw3 hwA
      have hf := finePar_of HPB.out
      have hp0 := okIns_parts HIN.out
      have H2 := Lib.hid hp0.2.1
      have E := Lib.hid (okSub_yes HPB.out HIN.out)
      have E2 := Lib.hid (show subG g set = ((insA g.1 g.2.1 set).1, (insA g.1 g.2.1 set).2, fill (fun i => gi g.2.2 (gi set i).toNat) m) by rw [subG_yes E.out, insA_yes HIN.out]; unfold subP; rw [HD.out])
      have hml : m ≤ 256 := by have h1 := set_len H2.out (by omega); rw [HD.out] at h1; have := hf.1.2.1; omega
      have H20 := Lib.hid (show n2 = g.1.length by rw [← HP.out]; exact hf.2.1)
      have HF := Lib.hid hf
      clear hf hp0
      have HO2 := Lib.hid ho2
      have bG : Box (w2.alloc (.cells #[.slice T0 (insA g.1 g.2.1 set).1.length e0, .slice T1 (insA g.1 g.2.1 set).2.length e1, .slice none 0 0] 33)) w2.heap.size 33 #[.slice T0 (insA g.1 g.2.1 set).1.length e0, .slice T1 (insA g.1 g.2.1 set).2.length e1, .slice none 0 0] := Box.new' (by simp)
      have hlow : Below w2.heap.size w2 (w2.alloc (.cells #[.slice T0 (insA g.1 g.2.1 set).1.length e0, .slice T1 (insA g.1 g.2.1 set).2.length e1, .slice none 0 0] 33)) := below_alloc (Nat.le_refl _) (Below.refl _ _)
      have hxl := hX2.lt; have hzl := hZ2.lt
      clear ho2
      go_wp2
      go_loopw [9] (fun i wr => ∃ (k : Nat) (u2 : Value), k ≤ m ∧ i = .int .i64 k ∧ OI 2 wr (w2.heap.size + 1) u2 (fill (fun i => gi g.2.2 (gi set i).toNat) k) ∧ Box wr w2.heap.size 33 #[.slice T0 (insA g.1 g.2.1 set).1.length e0, .slice T1 (insA g.1 g.2.1 set).2.length e1, u2] ∧ Below w2.heap.size w2 wr) (fun i _ => m - (intOf i).toNat)
      case atStart => exact ⟨0, _, Nat.zero_le _, rfl, OI.nil _ _ _, bG, hlow⟩
      case round =>
        clear bG hlow
        obtain ⟨k, u2, hk, rfl, ho, bG, hlow⟩ := hrel
        have hwr := below_then hlow hw2.size hw2
        have hX := hX2.on hlow
        obtain ⟨U2, e2, hu⟩ := ho.form
        rw [fill_len] at hu
        subst hu
        by_cases hlt : k < m
        · obtain ⟨bd, od_, rfl, hckd⟩ := hs.at_ hlt
          have hbd := setB_true.1 H2.out k (by rw [HD.out]; exact hlt)
          obtain ⟨v, hv⟩ := Int.eq_ofNat_of_zero_le hbd.1
          have hvn : v < n2 := by have := hbd.2.1; have := H20.out; omega
          rw [hv] at hckd
          have HV := Lib.hid hv
          clear hbd hv
          obtain ⟨bp, op, rfl, hckp⟩ := hrp.at_ hvn
          have lo_ := cell_lt hckp; have ld_ := cell_lt hckd
          have kp := below_cell hwr hckp; have kd := below_cell hwr hckd
          have hki : (k : Int) < (m : Int) := by omega
          have hk0 : (0 : Int) ≤ (k : Int) := by omega
          have hvi : (v : Int) < (n2 : Int) := by omega
          have hv0 : (0 : Int) ≤ (v : Int) := by omega
          have q2 := hX.c2
          have HN := Lib.hid (show fill (fun i => gi g.2.2 (gi set i).toNat) (k + 1) = (fill (fun i => gi g.2.2 (gi set i).toNat) k) ++ [gi g.2.2 v] by rw [fill_succ, HV.out]; simp)
          go_wp2_with fail
          refine wp_region_held_drew (S := (fun w' => w'.cell? ⟨w.heap.size, 2, none⟩ = some (.slice (some ⟨bp, op, none⟩) n2 c2) ∧ w'.cell? ⟨bp, op + v, none⟩ = some (.int .i64 (gi g.2.2 v)) ∧ w'.cell? ⟨bd, od_ + k, none⟩ = some (.int .i64 v))) (by kernel_rfl) (⟨q2, kp, kd⟩) (fun hHeld => ?_)
          replace ho := ho.drew
          replace bG : Box wr.drew w2.heap.size 33 #[.slice T0 (insA g.1 g.2.1 set).1.length e0, .slice T1 (insA g.1 g.2.1 set).2.length e1, .slice U2 k e2] := bG
          replace hlow := Below.drew hlow
          replace q2 : wr.drew.cell? ⟨w.heap.size, 2, none⟩ = some (.slice (some ⟨bp, op, none⟩) n2 c2) := q2
          replace kp : wr.drew.cell? ⟨bp, op + v, none⟩ = some (.int .i64 (gi g.2.2 v)) := kp
          replace kd : wr.drew.cell? ⟨bd, od_ + k, none⟩ = some (.int .i64 v) := kd
          generalize wr.drew = wd at *
          have g0 := bG.c2
          refine takeH0 (v := ?_) (by kernel_rfl) (by kernel_rfl) (by kernel_rfl) (fun _ _ _ h => h) hHeld (by rfl) ?_ ?_
          rotate_left; · (intro w hSw; (try dsimp only at hSw); go_simp; try with_reducible rfl)
          try simp only [Act.put, List.setIfInBounds_toArray, List.set_cons_zero, List.set_cons_succ]
          refine takeH2 (v := ?_) (by kernel_rfl) (by kernel_rfl) (by kernel_rfl) (fun _ _ _ h => h) hHeld (by rfl) ?_ ?_
          rotate_left; · (intro w hSw; (try dsimp only at hSw); go_simp; try with_reducible rfl)
          try simp only [Act.put, List.setIfInBounds_toArray, List.set_cons_zero, List.set_cons_succ]
          refine takeH3 (v := ?_) (by kernel_rfl) (by kernel_rfl) (by kernel_rfl) (fun _ _ _ h => h) hHeld (by rfl) ?_ ?_
          rotate_left; · (intro w hSw; (try dsimp only at hSw); go_simp; try with_reducible rfl)
          try simp only [Act.put, List.setIfInBounds_toArray, List.set_cons_zero, List.set_cons_succ]
          refine takeH4 (v := ?_) (by kernel_rfl) (by kernel_rfl) (by kernel_rfl) (fun _ _ _ h => h) hHeld (by rfl) ?_ ?_
          rotate_left; · (intro w hSw; (try dsimp only at hSw); go_simp; try with_reducible rfl)
          try simp only [Act.put, List.setIfInBounds_toArray, List.set_cons_zero, List.set_cons_succ]
          refine takeH5 (v := ?_) (by kernel_rfl) (by kernel_rfl) (by kernel_rfl) (fun _ _ _ h => h) hHeld (by rfl) ?_ ?_
          rotate_left; · (intro w hSw; (try dsimp only at hSw); go_simp; try with_reducible rfl)
          try simp only [Act.put, List.setIfInBounds_toArray, List.set_cons_zero, List.set_cons_succ]
          refine takeH6 (v := ?_) (by kernel_rfl) (by kernel_rfl) (by kernel_rfl) (fun _ _ _ h => h) hHeld (by rfl) ?_ ?_
          rotate_left; · (intro w hSw; (try dsimp only at hSw); go_simp; try with_reducible rfl)
          try simp only [Act.put, List.setIfInBounds_toArray, List.set_cons_zero, List.set_cons_succ]
          refine takeH7 (v := ?_) (by kernel_rfl) (by kernel_rfl) (by kernel_rfl) (fun _ _ _ h => h) hHeld (by rfl) ?_ ?_
          rotate_left; · (intro w hSw; (try dsimp only at hSw); go_simp; try with_reducible rfl)
          try simp only [Act.put, List.setIfInBounds_toArray, List.set_cons_zero, List.set_cons_succ]
          refine takeH8 (v := ?_) (by kernel_rfl) (by kernel_rfl) (by kernel_rfl) (fun _ _ _ h => h) hHeld (by rfl) ?_ ?_
          rotate_left; · (intro w hSw; (try dsimp only at hSw); go_simp; try with_reducible rfl)
          try simp only [Act.put, List.setIfInBounds_toArray, List.set_cons_zero, List.set_cons_succ]
          refine takeH9 (v := ?_) (by kernel_rfl) (by kernel_rfl) (by kernel_rfl) (fun _ _ _ h => h) hHeld (by rfl) ?_ ?_
          rotate_left; · (intro w hSw; (try dsimp only at hSw); go_simp; try with_reducible rfl)
          try simp only [Act.put, List.setIfInBounds_toArray, List.set_cons_zero, List.set_cons_succ]
          refine twoH_1_10 (by kernel_rfl) (fun K hK => ?_) (fun K hK => ?_)
          · go_simp
            refine hK.out _ _ (⟨q2, kp, kd⟩) (fun hHeld => ?_)
            clear hK K
            try simp only [Act.put, List.setIfInBounds_toArray, List.set_cons_zero, List.set_cons_succ]
            refine callH10 (by kernel_rfl) (fun K hK => ?_)
            have q2A : (wd.alloc (.cells #[.int .i64 (gi g.2.2 v)] 2)).cell? ⟨w.heap.size, 2, none⟩ = some (.slice (some ⟨bp, op, none⟩) n2 c2) := keepA q2
            have kpA : (wd.alloc (.cells #[.int .i64 (gi g.2.2 v)] 2)).cell? ⟨bp, op + v, none⟩ = some (.int .i64 (gi g.2.2 v)) := keepA kp
            have kdA : (wd.alloc (.cells #[.int .i64 (gi g.2.2 v)] 2)).cell? ⟨bd, od_ + k, none⟩ = some (.int .i64 v) := keepA kd
            go_simp
            refine hK.out _ _ (⟨q2A, kpA, kdA⟩) (fun hHeld => ?_)
            clear hK K
            try simp only [Act.put, List.setIfInBounds_toArray, List.set_cons_zero, List.set_cons_succ]
            refine callH11 (by kernel_rfl) (fun K hK => ?_)
            have hq1 : RI (wd.alloc (.cells #[.int .i64 (gi g.2.2 v)] 2)) (some ⟨wd.heap.size, 0, none⟩) 1 1 [gi g.2.2 v] := RI.one1 ((Box.new wd 2 #[.int .i64 (gi g.2.2 v)]).cell 0)
            have hbA : Below wd.heap.size wd (wd.alloc (.cells #[.int .i64 (gi g.2.2 v)] 2)) := below_alloc (Nat.le_refl _) (Below.refl _ _)
            have hoA := ho.below hbA
            have bGA : Box (wd.alloc (.cells #[.int .i64 (gi g.2.2 v)] 2)) w2.heap.size 33 #[.slice T0 (insA g.1 g.2.1 set).1.length e0, .slice T1 (insA g.1 g.2.1 set).2.length e1, .slice U2 k e2] := bG.alloc _
            have hlA : (w2.heap.size + 1) ≤ (wd.alloc (.cells #[.int .i64 (gi g.2.2 v)] 2)).heap.size := bGA.lt
            have hlowA := below_then hbA hlow.size hlow
            refine step_of_list (by rfl) (wp_appI (.tmp 34) (.tmp 43) (by rfl) (wd.alloc (.cells #[.int .i64 (gi g.2.2 v)] 2)) (w2.heap.size + 1) (.slice U2 k e2) (fill (fun i => gi g.2.2 (gi set i).toNat) k) (by rfl) hoA (some ⟨wd.heap.size, 0, none⟩) 1 1 [gi g.2.2 v] (by rfl) hq1 (by rw [fill_len]; omega) (by omega) hlA ?_)
            intro v7 w7 ho7 hb7 hc7 hat7
            obtain ⟨A7, c7, h7e⟩ := ho7.form
            have h7f : v7 = .slice A7 (k + 1) c7 := by rw [h7e, List.length_append, fill_len]; rfl
            clear h7e
            subst h7f
            have bG7 : Box w7 w2.heap.size 33 #[.slice T0 (insA g.1 g.2.1 set).1.length e0, .slice T1 (insA g.1 g.2.1 set).2.length e1, .slice U2 k e2] := bGA.below hb7 (by omega)
            have hlow7 : Below w2.heap.size w2 w7 := hlowA.trans (hb7.mono (by omega))
            have hX7 := hX2.on hlow7
            have hw7 := below_then hlow7 hw2.size hw2
            have g7 := bG7.c2
            have f7 := bG7.hot 2
            have q2 := hX7.c2
            have kp := below_cell hw7 hckp
            have kd := below_cell hw7 hckd
            clear hoA bGA hlowA hq1 hbA hat7
            refine hK.out _ _ (⟨q2, kp, kd⟩) (fun hHeld => ?_)
            clear hK K
            try simp only [Act.put, List.setIfInBounds_toArray, List.set_cons_zero, List.set_cons_succ]
            refine takeH12 (v := ?_) (by kernel_rfl) (by kernel_rfl) (by kernel_rfl) (fun _ _ _ h => h) hHeld (by rfl) ?_ ?_
            rotate_left; · (intro w hSw; (try dsimp only at hSw); go_simp; try with_reducible rfl)
            try simp only [Act.put, List.setIfInBounds_toArray, List.set_cons_zero, List.set_cons_succ]
            refine callH13 (by kernel_rfl) (fun K hK => ?_)
            have ch8 : Chg (fun y => y = w2.heap.size) w7 (w7.setCell ⟨w2.heap.size, 2, none⟩ (.slice A7 (k + 1) c7)) := Chg.set ⟨w2.heap.size, 2, none⟩ (.slice A7 (k + 1) c7)
            have hlow8 : Below w2.heap.size w2 (w7.setCell ⟨w2.heap.size, 2, none⟩ (.slice A7 (k + 1) c7)) := below_set (by show w2.heap.size ≤ w2.heap.size; omega) hlow7
            have hX8 := hX2.on hlow8
            have hw8 := below_then hlow8 hw2.size hw2
            have ho8 := ho7.chg ch8 (fun y hy e => by have h3 : y = w2.heap.size := e; have := (ho7.lt y hy).1; omega)
            have bG8 : Box (w7.setCell ⟨w2.heap.size, 2, none⟩ (.slice A7 (k + 1) c7)) w2.heap.size 33 #[.slice T0 (insA g.1 g.2.1 set).1.length e0, .slice T1 (insA g.1 g.2.1 set).2.length e1, .slice A7 (k + 1) c7] := by have := bG7.set_ 2 (.slice A7 (k + 1) c7); simpa using this
            have q2 := hX8.c2
            have kp := below_cell hw8 hckp
            have kd := below_cell hw8 hckd
            go_simp
            refine hK.out _ _ (⟨q2, kp, kd⟩) (fun hHeld => ?_)
            clear hK K
            try simp only [Act.put, List.setIfInBounds_toArray, List.set_cons_zero, List.set_cons_succ]
            refine wpAnyH_done (by kernel_rfl) ?_ _
            have HO8 := Lib.hid ho8; have HB8 := Lib.hid bG8; have HL8 := Lib.hid hlow8
            clear ho8 bG8 hlow8
            go_wp2
            exact ⟨⟨k + 1, _, by omega, by go_num, by rw [HN.out]; exact HO8.out, HB8.out, HL8.out⟩, by simp [intOf]; omega⟩
          · have q2A : (wd.alloc (.cells #[.int .i64 (gi g.2.2 v)] 2)).cell? ⟨w.heap.size, 2, none⟩ = some (.slice (some ⟨bp, op, none⟩) n2 c2) := keepA q2
            have kpA : (wd.alloc (.cells #[.int .i64 (gi g.2.2 v)] 2)).cell? ⟨bp, op + v, none⟩ = some (.int .i64 (gi g.2.2 v)) := keepA kp
            have kdA : (wd.alloc (.cells #[.int .i64 (gi g.2.2 v)] 2)).cell? ⟨bd, od_ + k, none⟩ = some (.int .i64 v) := keepA kd
            have g0A : ∀ o, (wd.alloc o).cell? ⟨w2.heap.size, 2, none⟩ = some (.slice U2 k e2) := fun o => keepA g0
            go_simp
            refine hK.out _ _ (⟨q2A, kpA, kdA⟩) (fun hHeld => ?_)
            clear hK K
            try simp only [Act.put, List.setIfInBounds_toArray, List.set_cons_zero, List.set_cons_succ]
            refine callH1 (by kernel_rfl) (fun K hK => ?_)
            go_simp
            refine hK.out _ _ (⟨q2A, kpA, kdA⟩) (fun hHeld => ?_)
            clear hK K
            try simp only [Act.put, List.setIfInBounds_toArray, List.set_cons_zero, List.set_cons_succ]
            refine callH11 (by kernel_rfl) (fun K hK => ?_)
            have hq1 : RI (wd.alloc (.cells #[.int .i64 (gi g.2.2 v)] 2)) (some ⟨wd.heap.size, 0, none⟩) 1 1 [gi g.2.2 v] := RI.one1 ((Box.new wd 2 #[.int .i64 (gi g.2.2 v)]).cell 0)
            have hbA : Below wd.heap.size wd (wd.alloc (.cells #[.int .i64 (gi g.2.2 v)] 2)) := below_alloc (Nat.le_refl _) (Below.refl _ _)
            have hoA := ho.below hbA
            have bGA : Box (wd.alloc (.cells #[.int .i64 (gi g.2.2 v)] 2)) w2.heap.size 33 #[.slice T0 (insA g.1 g.2.1 set).1.length e0, .slice T1 (insA g.1 g.2.1 set).2.length e1, .slice U2 k e2] := bG.alloc _
            have hlA : (w2.heap.size + 1) ≤ (wd.alloc (.cells #[.int .i64 (gi g.2.2 v)] 2)).heap.size := bGA.lt
            have hlowA := below_then hbA hlow.size hlow
            refine step_of_list (by rfl) (wp_appI (.tmp 34) (.tmp 43) (by rfl) (wd.alloc (.cells #[.int .i64 (gi g.2.2 v)] 2)) (w2.heap.size + 1) (.slice U2 k e2) (fill (fun i => gi g.2.2 (gi set i).toNat) k) (by rfl) hoA (some ⟨wd.heap.size, 0, none⟩) 1 1 [gi g.2.2 v] (by rfl) hq1 (by rw [fill_len]; omega) (by omega) hlA ?_)
            intro v7 w7 ho7 hb7 hc7 hat7
            obtain ⟨A7, c7, h7e⟩ := ho7.form
            have h7f : v7 = .slice A7 (k + 1) c7 := by rw [h7e, List.length_append, fill_len]; rfl
            clear h7e
            subst h7f
            have bG7 : Box w7 w2.heap.size 33 #[.slice T0 (insA g.1 g.2.1 set).1.length e0, .slice T1 (insA g.1 g.2.1 set).2.length e1, .slice U2 k e2] := bGA.below hb7 (by omega)
            have hlow7 : Below w2.heap.size w2 w7 := hlowA.trans (hb7.mono (by omega))
            have hX7 := hX2.on hlow7
            have hw7 := below_then hlow7 hw2.size hw2
            have g7 := bG7.c2
            have f7 := bG7.hot 2
            have q2 := hX7.c2
            have kp := below_cell hw7 hckp
            have kd := below_cell hw7 hckd
            clear hoA bGA hlowA hq1 hbA hat7
            refine hK.out _ _ (⟨q2, kp, kd⟩) (fun hHeld => ?_)
            clear hK K
            try simp only [Act.put, List.setIfInBounds_toArray, List.set_cons_zero, List.set_cons_succ]
            refine takeH12 (v := ?_) (by kernel_rfl) (by kernel_rfl) (by kernel_rfl) (fun _ _ _ h => h) hHeld (by rfl) ?_ ?_
            rotate_left; · (intro w hSw; (try dsimp only at hSw); go_simp; try with_reducible rfl)
            try simp only [Act.put, List.setIfInBounds_toArray, List.set_cons_zero, List.set_cons_succ]
            refine callH13 (by kernel_rfl) (fun K hK => ?_)
            have ch8 : Chg (fun y => y = w2.heap.size) w7 (w7.setCell ⟨w2.heap.size, 2, none⟩ (.slice A7 (k + 1) c7)) := Chg.set ⟨w2.heap.size, 2, none⟩ (.slice A7 (k + 1) c7)
            have hlow8 : Below w2.heap.size w2 (w7.setCell ⟨w2.heap.size, 2, none⟩ (.slice A7 (k + 1) c7)) := below_set (by show w2.heap.size ≤ w2.heap.size; omega) hlow7
            have hX8 := hX2.on hlow8
            have hw8 := below_then hlow8 hw2.size hw2
            have ho8 := ho7.chg ch8 (fun y hy e => by have h3 : y = w2.heap.size := e; have := (ho7.lt y hy).1; omega)
            have bG8 : Box (w7.setCell ⟨w2.heap.size, 2, none⟩ (.slice A7 (k + 1) c7)) w2.heap.size 33 #[.slice T0 (insA g.1 g.2.1 set).1.length e0, .slice T1 (insA g.1 g.2.1 set).2.length e1, .slice A7 (k + 1) c7] := by have := bG7.set_ 2 (.slice A7 (k + 1) c7); simpa using this
            have q2 := hX8.c2
            have kp := below_cell hw8 hckp
            have kd := below_cell hw8 hckd
            go_simp
            refine hK.out _ _ (⟨q2, kp, kd⟩) (fun hHeld => ?_)
            clear hK K
            try simp only [Act.put, List.setIfInBounds_toArray, List.set_cons_zero, List.set_cons_succ]
            refine wpAnyH_done (by kernel_rfl) ?_ _
            have HO8 := Lib.hid ho8; have HB8 := Lib.hid bG8; have HL8 := Lib.hid hlow8
            clear ho8 bG8 hlow8
            go_wp2
            exact ⟨⟨k + 1, _, by omega, by go_num, by rw [HN.out]; exact HO8.out, HB8.out, HL8.out⟩, by simp [intOf]; omega⟩
        · obtain rfl : k = m := by omega
          have g0 := bG.c0; have g1 := bG.c1; have g2 := bG.c2
          have hZ := hZ2.on hlow
          have z0 := hZ.c0; have z1 := hZ.c1; have z2 := hZ.c2; have y0 := hZ.hot 0; have y1 := hZ.hot 1; have y2 := hZ.hot 2
          obtain ⟨hF2, hF3⟩ := zero3 hwr (Nat.le_succ _) hZ (.slice T0 (insA g.1 g.2.1 set).1.length e0) (.slice T1 (insA g.1 g.2.1 set).2.length e1) (.slice U2 k e2)
          have R0 := hF3.c0; have R1 := hF3.c1; have R2 := hF3.c2
          have chF := ((Chg.refl (fun y => y = w.heap.size + 1) w2).then_below hlow (Nat.le_refl _)).push (Chg.set3 wr (w.heap.size + 1) (.slice T0 (insA g.1 g.2.1 set).1.length e0) (.slice T1 (insA g.1 g.2.1 set).2.length e1) (.slice U2 k e2)) (fun x hx => .inl hx)
          have ho3 := ho.chg (Chg.set3 wr (w.heap.size + 1) (.slice T0 (insA g.1 g.2.1 set).1.length e0) (.slice T1 (insA g.1 g.2.1 set).2.length e1) (.slice U2 k e2)) (fun y hy e => by have h3 : y = w.heap.size + 1 := e; have := (ho.lt y hy).1; omega)
          have hoF := OPar.ofArn HO2.out hlo chF (fun y hy => by have h3 : y = w.heap.size + 1 := hy; omega) (ho3.more (by omega))
          go_wp2
          exact bodyPost_ret (v := .tuple #[.agg #[.slice T0 (insA g.1 g.2.1 set).1.length e0, .slice T1 (insA g.1 g.2.1 set).2.length e1, .slice U2 k e2], .bool true]) (by simp [results, Try.results92, go_sem, R0, R1, R2]) rfl ⟨_, _, _, by rw [E.out], by rw [E2.out]; exact hoF.more (by omega), hF2.mono hB⟩

end Go.Proofs.Ytlmhhnplacejkaa
