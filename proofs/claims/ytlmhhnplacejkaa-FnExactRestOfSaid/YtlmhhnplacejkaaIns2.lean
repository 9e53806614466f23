/- InsideOf: the arena inside of a set. -/
import Derived.Test.YtlmhhnplacejkaaIns
namespace Go.Proofs.Ytlmhhnplacejkaa
open Go.RowKit

theorem l1PlaceN (A : Option Addr) (n c : Nat) (xs : List Int) (x : Int) (w : World) (ha : RI w A n c xs) :
    Calls Try.prog 75 #[.slice A n c, .int .i64 x] w fun e w' => e = .returned (.int .i64 (placeL xs x)) ∧ Qt w w' := by
  have b1 := ha.cap; have b2 := ha.top
  have HE := Lib.hid (show placeL xs x = firstI (fun i => gi xs i == x) n by unfold placeL; rw [ha.len])
  go_enter Try.func75, Try.ntmps75
  go_wp2
  go_loop [5] (fun i => ∃ k : Nat, k ≤ n ∧ i = .int .i64 k ∧ (∀ j, j < k → (gi xs j == x) = false)) (fun i => n - (intOf i).toNat)
  case atStart => exact ⟨0, Nat.zero_le _, rfl, by omega⟩
  case round =>
    obtain ⟨k, hk, rfl, hall⟩ := hrel
    have HA := Lib.hid hall
    clear hall
    by_cases hlt : k < n
    · obtain ⟨b, off, rfl, hc1⟩ := ha.at_ hlt
      by_cases he : (gi xs k == x) = true
      · have E := Lib.hid (firstI_hit (p := fun i => gi xs i == x) (n := n) he HA.out hlt)
        have he2 : (x == gi xs k) = true := by rw [beq_iff_eq] at he ⊢; exact he.symm
        go_wp2
        go_ret
        exact ⟨ret_i (by rw [HE.out]; exact E.out.symm), Qt.refl _⟩
      · have he1 : (gi xs k == x) = false := by simpa using he
        have H := Lib.hid he1
        have he2 : (x == gi xs k) = false := by rw [beq_eq_false_iff_ne] at he1 ⊢; exact fun h => he1 h.symm
        clear he
        go_wp2
        go_round
        case rel => exact ⟨k + 1, by omega, by go_num, all_succ HA.out H.out⟩
        case measure => simp [intOf]; omega
    · obtain rfl : k = n := by omega
      have E := Lib.hid (firstI_none (p := fun i => gi xs i == x) HA.out)
      go_wp2
      go_ret
      exact ⟨ret_i (by rw [HE.out]; exact E.out.symm), Qt.refl _⟩


set_option maxRecDepth 100000 in
set_option maxHeartbeats 3200000 in
theorem implInsideOf (s0 s1 : Value) (C : Option Addr) (m d : Nat) (o : List Int) (n : List (List Int)) (set : List Int) (w : World) (B : Nat) (hB : B ≤ w.heap.size) (har : RAv w s0 s1 o n) (hs : RI w C m d set) :
    Calls Try.prog 152 #[.agg #[s0, s1], .slice C m d] w fun e w' => ∃ t0 t1, e = .returned (.tuple #[.agg #[t0, t1], .bool (okIns o n set)]) ∧ OArn w' B t0 t1 (insA o n set) ∧ Below B w w' := by
  obtain ⟨A0, n0, c0, A1, n1, c1, rfl, rfl⟩ := har.form
  have ha := har.ri; have hb := har.rii
  have b1 := ha.cap; have b2 := ha.top; have b3 := hb.cap; have b4 := hb.top; have b5 := hs.cap; have b6 := hs.top
  have HL := Lib.hid ha.len; have HD := Lib.hid hs.len
  have hba : Below w.heap.size w ((w.alloc (.cells #[.slice A0 n0 c0, .slice A1 n1 c1] 30)).alloc (.cells #[.slice none 0 0, .slice none 0 0] 30)) := below_alloc (Nat.le_refl _) (below_alloc (Nat.le_refl _) (Below.refl _ _))
  have bxL := (Box.new w 30 #[.slice A0 n0 c0, .slice A1 n1 c1]).alloc (.cells #[.slice none 0 0, .slice none 0 0] 30)
  have brL : Box ((w.alloc (.cells #[.slice A0 n0 c0, .slice A1 n1 c1] 30)).alloc (.cells #[.slice none 0 0, .slice none 0 0] 30)) (w.heap.size + 1) 30 #[.slice none 0 0, .slice none 0 0] := Box.new' (by simp)
  have q0 := bxL.d0; have q1 := bxL.d1
  cases h1 : arB o n with
  | false =>
    have E := Lib.hid (okIns_no1 (set := set) h1)
    have E2 := Lib.hid (insA_no E.out)
    have H1 := Lib.hid h1
    clear h1
    go_enter Try.func152, Try.ntmps152
    go_wp2_with fail
    refine (implArenaOk _ _ _ _ _ _ o n _ _ (Nat.le_refl _) (ha.keep (keeps_below hba)) (hb.keep (keeps_below hba))).mono ?_; rintro e w1 ⟨rfl, hb1⟩
    rw [H1.out]
    have hw1 := below_then hb1 hba.size hba
    have br1 := brL.on hb1
    clear q0 q1 bxL brL
    have z0 := br1.d0; have z1 := br1.d1; have y0 := br1.hot 0; have y1 := br1.hot 1
    go_wp2
    obtain ⟨hwZ, bxZ⟩ := zero2 hw1 (by omega) br1 (.slice none 0 0) (.slice none 0 0)
    have R0 := bxZ.d0; have R1 := bxZ.d1
    exact bodyPost_ret (v := .tuple #[.agg #[.slice none 0 0, .slice none 0 0], .bool false]) (by simp [results, Try.results152, go_sem, R0, R1]) rfl ⟨_, _, by rw [E.out], by rw [E2.out]; exact OArn.nil _ _, hwZ.mono hB⟩
  | true =>
    have H1 := Lib.hid h1
    clear h1
    go_enter Try.func152, Try.ntmps152
    go_wp2_with fail
    refine (implArenaOk _ _ _ _ _ _ o n _ _ (Nat.le_refl _) (ha.keep (keeps_below hba)) (hb.keep (keeps_below hba))).mono ?_; rintro e w1 ⟨rfl, hb1⟩
    rw [H1.out]
    have hw1 := below_then hb1 hba.size hba
    have bx1 := bxL.on hb1; have br1 := brL.on hb1
    clear q0 q1 bxL brL hba hb1
    have q0 := bx1.d0; have q1 := bx1.d1
    go_wp2_with fail
    refine (implSize _ _ _ _ _ _ _ _ (Nat.le_refl _) (by omega)).mono ?_; rintro e w2 ⟨rfl, hb2⟩
    have hw2 := below_then hb2 hw1.size hw1
    have bx2 := bx1.on hb2; have br2 := br1.on hb2
    clear q0 q1 bx1 br1 hw1 hb2
    have q0 := bx2.d0; have q1 := bx2.d1
    cases h2 : setB set (n0 : Int) with
    | false =>
      have E := Lib.hid (okIns_no2 (o := o) (n := n) (set := set) (by rw [HL.out]; exact h2))
      have E2 := Lib.hid (insA_no E.out)
      have H2 := Lib.hid h2
      clear h2
      go_wp2_with fail
      refine (isSet _ _ _ _ _ _ (hs.keep (keeps_below hw2))).mono ?_; rintro e w3 ⟨rfl, hq3⟩
      rw [H2.out]
      have hw3 := below_qt hq3 hw2
      have br3 := br2.on (below_qt hq3 (Below.refl _ _))
      clear q0 q1 bx2 br2 hq3
      have z0 := br3.d0; have z1 := br3.d1; have y0 := br3.hot 0; have y1 := br3.hot 1
      go_wp2
      obtain ⟨hwZ, bxZ⟩ := zero2 hw3 (by omega) br3 (.slice none 0 0) (.slice none 0 0)
      have R0 := bxZ.d0; have R1 := bxZ.d1
      exact bodyPost_ret (v := .tuple #[.agg #[.slice none 0 0, .slice none 0 0], .bool false]) (by simp [results, Try.results152, go_sem, R0, R1]) rfl ⟨_, _, by rw [E.out], by rw [E2.out]; exact OArn.nil _ _, hwZ.mono hB⟩
    | true =>
      have H2 := Lib.hid h2
      clear h2
      go_wp2_with fail
      refine (isSet _ _ _ _ _ _ (hs.keep (keeps_below hw2))).mono ?_; rintro e w3 ⟨rfl, hq3⟩
      rw [H2.out]
      have hb3 := below_qt hq3 (Below.refl w2.heap.size w2)
      have hw3 := below_qt hq3 hw2
      have bx3 := bx2.on hb3; have br3 := br2.on hb3
      clear q0 q1 bx2 br2 hq3 hb3
      have q0 := bx3.d0; have q1 := bx3.d1
      by_cases hm : 0 < m
      · have hne : ((m : Int) == 0) = false := by rw [beq_eq_false_iff_ne]; omega
        go_wp2_with fail
        refine (insideOf _ _ _ _ _ _ _ _ _ o n set _ _ (Nat.le_refl _) (ha.keep (keeps_below hw3)) (hb.keep (keeps_below hw3)) (hs.keep (keeps_below hw3)) H1.out (by rw [HL.out]; exact H2.out) hm).mono ?_; rintro e w4 ⟨t0, t1, rfl, ho4, hb4⟩
        have hw4 := below_then hb4 hw3.size hw3
        have br4 := br3.on hb4
        obtain ⟨T0, e0, T1, e1, rfl, rfl⟩ := ho4.form
        have z0 := br4.d0; have z1 := br4.d1; have y0 := br4.hot 0; have y1 := br4.hot 1
        obtain ⟨hF2, hF3⟩ := zero2 hw4 (Nat.le_succ _) br4 (.slice T0 (insA o n set).1.length e0) (.slice T1 (insA o n set).2.length e1)
        have R0 := hF3.d0; have R1 := hF3.d1
        have hbl := br3.lt
        have ch : Chg (fun x => x = w.heap.size + 1) w4 ((w4.setCell ⟨w.heap.size + 1, 0, none⟩ (.slice T0 (insA o n set).1.length e0)).setCell ⟨w.heap.size + 1, 1, none⟩ (.slice T1 (insA o n set).2.length e1)) := (Chg.set (w := w4) ⟨w.heap.size + 1, 0, none⟩ (.slice T0 (insA o n set).1.length e0)).trans (Chg.set ⟨w.heap.size + 1, 1, none⟩ (.slice T1 (insA o n set).2.length e1)) (U := fun x => x = w.heap.size + 1) (fun _ h => h) (fun _ h => h)
        have hoF := ho4.chg ch (fun x hx => by omega)
        have hsz := hw3.size
        clear q0 q1
        go_wp2
        exact bodyPost_ret (v := .tuple #[.agg #[.slice T0 (insA o n set).1.length e0, .slice T1 (insA o n set).2.length e1], .bool (okIns o n set)]) (by simp [results, Try.results152, go_sem, R0, R1]) rfl ⟨_, _, rfl, hoF.more (by omega), hF2.mono hB⟩
      · have hne : ((m : Int) == 0) = true := by rw [beq_iff_eq]; omega
        have E := Lib.hid (okIns_no3 (o := o) (n := n) (set := set) (fun h => hm (by rw [← HD.out]; exact h.1)))
        have E2 := Lib.hid (insA_no E.out)
        clear hm
        have z0 := br3.d0; have z1 := br3.d1; have y0 := br3.hot 0; have y1 := br3.hot 1
        go_wp2
        obtain ⟨hwZ, bxZ⟩ := zero2 hw3 (by omega) br3 (.slice none 0 0) (.slice none 0 0)
        have R0 := bxZ.d0; have R1 := bxZ.d1
        exact bodyPost_ret (v := .tuple #[.agg #[.slice none 0 0, .slice none 0 0], .bool false]) (by simp [results, Try.results152, go_sem, R0, R1]) rfl ⟨_, _, by rw [E.out], by rw [E2.out]; exact OArn.nil _ _, hwZ.mono hB⟩


set_option maxRecDepth 100000 in
set_option maxHeartbeats 3200000 in
theorem specInsideOf (s0 s1 : Value) (C : Option Addr) (m d : Nat) (o : List Int) (n : List (List Int)) (set : List Int) (w : World) (B : Nat) (hB : B ≤ w.heap.size) (har : RAv w s0 s1 o n) (hs : RI w C m d set) :
    Calls Try.prog 150 #[.agg #[s0, s1], .slice C m d] w fun e w' => ∃ t0 t1, e = .returned (.tuple #[.agg #[t0, t1], .bool (okIns o n set)]) ∧ OArn w' B t0 t1 (insA o n set) ∧ Below B w w' := by
  obtain ⟨A0, n0, c0, A1, n1, c1, rfl, rfl⟩ := har.form
  have ha := har.ri; have hb := har.rii
  have b1 := ha.cap; have b2 := ha.top; have b3 := hb.cap; have b4 := hb.top; have b5 := hs.cap; have b6 := hs.top
  have HL := Lib.hid ha.len; have HD := Lib.hid hs.len
  have hba : Below w.heap.size w ((w.alloc (.cells #[.slice A0 n0 c0, .slice A1 n1 c1] 30)).alloc (.cells #[.slice none 0 0, .slice none 0 0] 30)) := below_alloc (Nat.le_refl _) (below_alloc (Nat.le_refl _) (Below.refl _ _))
  have bxL := (Box.new w 30 #[.slice A0 n0 c0, .slice A1 n1 c1]).alloc (.cells #[.slice none 0 0, .slice none 0 0] 30)
  have brL : Box ((w.alloc (.cells #[.slice A0 n0 c0, .slice A1 n1 c1] 30)).alloc (.cells #[.slice none 0 0, .slice none 0 0] 30)) (w.heap.size + 1) 30 #[.slice none 0 0, .slice none 0 0] := Box.new' (by simp)
  have q0 := bxL.d0; have q1 := bxL.d1
  cases h1 : arB o n with
  | false =>
    have E := Lib.hid (okIns_no1 (set := set) h1)
    have E2 := Lib.hid (insA_no E.out)
    have H1 := Lib.hid h1
    clear h1
    go_enter Try.func150, Try.ntmps150
    go_wp2_with fail
    refine (specArenaOk _ _ _ _ _ _ o n _ _ (Nat.le_refl _) (ha.keep (keeps_below hba)) (hb.keep (keeps_below hba))).mono ?_; rintro e w1 ⟨rfl, hb1⟩
    rw [H1.out]
    have hw1 := below_then hb1 hba.size hba
    have br1 := brL.on hb1
    clear q0 q1 bxL brL
    have z0 := br1.d0; have z1 := br1.d1; have y0 := br1.hot 0; have y1 := br1.hot 1
    go_wp2
    obtain ⟨hwZ, bxZ⟩ := zero2 hw1 (by omega) br1 (.slice none 0 0) (.slice none 0 0)
    have R0 := bxZ.d0; have R1 := bxZ.d1
    exact bodyPost_ret (v := .tuple #[.agg #[.slice none 0 0, .slice none 0 0], .bool false]) (by simp [results, Try.results150, go_sem, R0, R1]) rfl ⟨_, _, by rw [E.out], by rw [E2.out]; exact OArn.nil _ _, hwZ.mono hB⟩
  | true =>
    have H1 := Lib.hid h1
    clear h1
    go_enter Try.func150, Try.ntmps150
    go_wp2_with fail
    refine (specArenaOk _ _ _ _ _ _ o n _ _ (Nat.le_refl _) (ha.keep (keeps_below hba)) (hb.keep (keeps_below hba))).mono ?_; rintro e w1 ⟨rfl, hb1⟩
    rw [H1.out]
    have hw1 := below_then hb1 hba.size hba
    have bx1 := bxL.on hb1; have br1 := brL.on hb1
    clear q0 q1 bxL brL hba hb1
    have q0 := bx1.d0; have q1 := bx1.d1
    have hw2 := hw1; have bx2 := bx1; have br2 := br1
    clear hw1 bx1 br1
    generalize w1 = w2 at *
    cases h2 : setB set (n0 : Int) with
    | false =>
      have E := Lib.hid (okIns_no2 (o := o) (n := n) (set := set) (by rw [HL.out]; exact h2))
      have E2 := Lib.hid (insA_no E.out)
      have H2 := Lib.hid h2
      clear h2
      go_wp2_with fail
      refine (l1Set _ _ _ _ _ _ (hs.keep (keeps_below hw2)) (by omega) (by omega)).mono ?_; rintro e w3 ⟨rfl, hq3⟩
      rw [H2.out]
      have hw3 := below_qt hq3 hw2
      have br3 := br2.on (below_qt hq3 (Below.refl _ _))
      clear q0 q1 bx2 br2 hq3
      have z0 := br3.d0; have z1 := br3.d1; have y0 := br3.hot 0; have y1 := br3.hot 1
      go_wp2
      obtain ⟨hwZ, bxZ⟩ := zero2 hw3 (by omega) br3 (.slice none 0 0) (.slice none 0 0)
      have R0 := bxZ.d0; have R1 := bxZ.d1
      exact bodyPost_ret (v := .tuple #[.agg #[.slice none 0 0, .slice none 0 0], .bool false]) (by simp [results, Try.results150, go_sem, R0, R1]) rfl ⟨_, _, by rw [E.out], by rw [E2.out]; exact OArn.nil _ _, hwZ.mono hB⟩
    | true =>
      have H2 := Lib.hid h2
      clear h2
      go_wp2_with fail
      refine (l1Set _ _ _ _ _ _ (hs.keep (keeps_below hw2)) (by omega) (by omega)).mono ?_; rintro e w3 ⟨rfl, hq3⟩
      rw [H2.out]
      have hb3 := below_qt hq3 (Below.refl w2.heap.size w2)
      have hw3 := below_qt hq3 hw2
      have bx3 := bx2.on hb3; have br3 := br2.on hb3
      clear q0 q1 bx2 br2 hq3 hb3
      have q0 := bx3.d0; have q1 := bx3.d1
      by_cases hm : 0 < m
      · have hne : ((m : Int) == 0) = false := by rw [beq_eq_false_iff_ne]; omega
        have hf := fineAr_of H1.out
        have hn0 := hf.2.1; have hn1 := hf.2.2.1; have hn3 := hf.1
        rw [HL.out] at hn0 hn1 hn3
        have HM := Lib.hid hb.len
        rw [HM.out] at hn1
        have hml : m ≤ n0 := by have := set_len H2.out (by omega); rw [HD.out] at this; omega
        have HF := Lib.hid hf; have H10 := Lib.hid hn1
        clear hf hn1 q0 q1
        have hX2 := bx3
        obtain ⟨wz, rfl⟩ : ∃ wz : World, wz = w3 := ⟨_, rfl⟩
        have hGS : GAx (wz.heap.size + 1) w wz (wz.alloc (.cells #[.slice none 0 0, .slice none 0 0] 30)) (w.heap.size + 1) wz.heap.size (.slice none 0 0) (.slice none 0 0) (insUp o n set 0) := GAx.start hw3 (Nat.le_succ _) br3
        have hgS : goodIn n set 0 := fun i hi => absurd hi (by omega)
        have hXz := bx3.lt
        clear bx3 br3
        go_wp2
        go_loopw [7] (fun i wr => ∃ (k : Nat) (u0 u1 : Value), k ≤ m ∧ i = .int .i64 k ∧ goodIn n set k ∧ GAx (wz.heap.size + 1) w wz wr (w.heap.size + 1) wz.heap.size u0 u1 (insUp o n set k)) (fun i _ => m - (intOf i).toNat)
        case atStart => exact ⟨0, _, _, Nat.zero_le _, rfl, hgS, hGS⟩
        case round =>
          clear hGS hgS
          obtain ⟨k, u0, u1, hk, rfl, hgd, hG⟩ := hrel
          have hC := hG.low
          obtain ⟨wo, rfl⟩ : ∃ wo : World, wo = wr := ⟨_, rfl⟩
          have HG := Lib.hid hgd
          clear hgd
          have hwo := hG.below
          have hsz := hG.size
          have hX : Box wo w.heap.size 30 #[.slice A0 n0 c0, .slice A1 n1 c1] := hX2.on hC
          have HI1 := Lib.hid (insUp_len o n set k).1; have HI2 := Lib.hid (insUp_len o n set k).2
          obtain ⟨U0, e0, U1, e1, rfl, rfl⟩ := hG.own.form
          rw [HI1.out, HI2.out] at hG
          by_cases hlt : k < m
          · obtain ⟨bd, od_, rfl, hckd⟩ := hs.at_ hlt
            have hbd := setB_true.1 H2.out k (by rw [HD.out]; exact hlt)
            obtain ⟨v, hv⟩ := Int.eq_ofNat_of_zero_le hbd.1
            have hvn : v < n0 := by have := hbd.2.1; omega
            rw [hv] at hckd
            have HV := Lib.hid hv
            clear hbd hv
            have hlt1 : v < n1 := by have := H10.out; omega
            obtain ⟨bo, oo, rfl, hcko⟩ := ha.at_ hvn
            obtain ⟨bn, on, An, nn, cn, rfl, hcn, rn⟩ := hb.at_ hlt1
            have lo_ := cell_lt hcko; have ld_ := cell_lt hckd
            have x1 : ¬ wz.heap.size = bo := by have := hw3.size; omega
            have x2 : ¬ wz.heap.size = bd := by have := hw3.size; omega
            have x3 : ¬ wz.heap.size = w.heap.size := by omega
            have hki : (k : Int) < (m : Int) := by omega
            have hk0 : (0 : Int) ≤ (k : Int) := by omega
            have hvi : (v : Int) < (n0 : Int) := by omega
            have hvi1 : (v : Int) < (n1 : Int) := by omega
            have hv0 : (0 : Int) ≤ (v : Int) := by omega
            have HRW := Lib.hid (HF.out.2.2.2 v (by rw [HL.out]; exact hvn)).2
            have HNN := Lib.hid rn.len
            have hnn : nn ≤ 16 := by have := HRW.out.1.2; rw [rn.len] at this; exact this
            have c1' := rn.cap; have c2' := rn.top
            have hem := OI.empty (E := 2) (w := wo) (B := wo.heap.size) (Nat.le_refl _)
            have hbE : Below wo.heap.size wo (wo.alloc (.cells #[] 2)) := below_alloc (Nat.le_refl _) (Below.refl _ _)
            go_wp2
            go_loopw [8, 9] (fun u i wr => ∃ j : Nat, j ≤ nn ∧ i = .int .i64 j ∧ OI 2 wr wo.heap.size u (inUp set (gl n v) j) ∧ Below wo.heap.size wo wr) (fun _ i _ => nn - (intOf i).toNat)
            case atStart => exact ⟨0, Nat.zero_le _, rfl, hem, hbE⟩
            case round =>
              clear hem hbE
              obtain ⟨j, hj, rfl, hoJ, hbr2⟩ := hrel
              have hX := hX.on hbr2
              have hwr := below_then hbr2 hwo.size hwo
              have hpl := inUp_take (set := set) (row := gl n v) (k := j)
              have q0 := hX.d0; have q1 := hX.d1
              have kn := below_cell hwr hcn; have kd := below_cell hwr hckd
              by_cases hjl : j < nn
              · obtain ⟨br, ore, rfl, hcr⟩ := (rn.keep (keeps_below hwr)).at_ hjl
                have hrb := set_mem HRW.out.2 (gi_mem (xs := gl n v) (i := j) (by rw [HNN.out]; exact hjl))
                obtain ⟨u, hu⟩ := Int.eq_ofNat_of_zero_le hrb.1
                rw [hu] at hcr
                have HU := Lib.hid hu
                have hji : (j : Int) < (nn : Int) := by omega
                have hj0 : (0 : Int) ≤ (j : Int) := by omega
                have hszr := hbr2.size
                have hsr := hs.keep (keeps_below hwr)
                clear hrb hu
                cases hh : hasL set (u : Int) with
                | true =>
                  have hge : (0 : Int) ≤ placeL set (u : Int) := (placeL_neg H2.out).2 hh
                  have HNX := Lib.hid (show inUp set (gl n v) (j + 1) = inUp set (gl n v) j ++ [placeL set (u : Int)] by rw [inUp_yes (by rw [HU.out]; exact hh), HU.out])
                  clear hh
                  go_wp2_with fail
                  go_quiet (fail)
                  go_wp2
                  go_quiet ((go_at_call 75; exact quiet1 (l1PlaceN _ _ _ set (u : Int) _ (by exact hsr))))
                  go_wp2_with (at_builtin; refine wpList_pushI rfl (.tmp 64) (.tmp 66) rfl _ wo.heap.size u8 (inUp set (gl n v) j) (by rfl) (by exact hoJ) _ (by rfl) (by omega) (by exact hszr) ?_; intro vn wn hon hbn hcn2 hatn)
                  go_wp2
                  go_roundw
                  case rel => exact ⟨j + 1, by omega, by go_num, by rw [HNX.out]; exact hon, (below_drewN hbr2 _).trans hbn⟩
                  case measure => simp [intOf]; omega
                | false =>
                  have hge : ¬ (0 : Int) ≤ placeL set (u : Int) := by rw [placeL_neg H2.out, hh]; simp
                  have HNX := Lib.hid (show inUp set (gl n v) (j + 1) = inUp set (gl n v) j from inUp_no (by rw [HU.out]; exact hh))
                  clear hh
                  go_wp2_with fail
                  go_quiet (fail)
                  go_wp2
                  go_quiet ((go_at_call 75; exact quiet1 (l1PlaceN _ _ _ set (u : Int) _ (by exact hsr))))
                  go_wp2
                  go_roundw
                  case rel => exact ⟨j + 1, by omega, by go_num, by rw [HNX.out]; exact hoJ, below_drewN hbr2 _⟩
                  case measure => simp [intOf]; omega
              · obtain rfl : j = nn := by omega
                have HNX := Lib.hid (show inUp set (gl n v) j = inRow set (gl n v) by unfold inRow; rw [HNN.out])
                rw [HNX.out] at hoJ
                have HN := Lib.hid (show insUp o n set (k + 1) = ((insUp o n set k).1 ++ [gi o v], (insUp o n set k).2 ++ [inRow set (gl n v)]) by rw [insUp, HV.out]; simp)
                have HGN := Lib.hid (show 0 < (inRow set (gl n v)).length → goodIn n set (k + 1) from fun h => all_succ HG.out (by rw [HV.out]; exact h))
                have HGB := Lib.hid (show ¬ 0 < (inRow set (gl n v)).length → okIns o n set = false from fun h => okIns_no3 fun h2 => h (by have h3 := h2.2 k (by rw [HD.out]; exact hlt); rw [HV.out] at h3; exact h3))
                clear hpl
                generalize inRow set (gl n v) = nx at *
                obtain ⟨Av, cv, rfl⟩ := hoJ.form
                go_wp2_with fail
                go_quiet (fail)
                by_cases hz : 0 < nx.length
                · have HGD := Lib.hid (HGN.out hz)
                  have hne2 : ((nx.length : Int) == 0) = false := by rw [beq_eq_false_iff_ne]; omega
                  have hU := GAu.of hG (below_drewN hbr2 nq) (by exact hoJ)
                  replace hX : Box (wr.drewN nq) w.heap.size 30 #[.slice (some ⟨bo, oo, none⟩) n0 c0, .slice (some ⟨bn, on, none⟩) n1 c1] := hX
                  have ko := below_cell (below_drewN hwr nq) hcko
                  replace kd := below_cell (below_drewN hwr nq) hckd
                  replace q0 := hX.d0
                  clear hG hoJ hz q1 kn
                  go_wp2_with fail
                  generalize wr.drewN nq = wr at *
                  refine wp_region_held_drew (S := (fun w' => w'.cell? ⟨w.heap.size, 0, none⟩ = some (.slice (some ⟨bo, oo, none⟩) n0 c0) ∧ w'.cell? ⟨bo, oo + v, none⟩ = some (.int .i64 (gi o v)) ∧ w'.cell? ⟨bd, od_ + k, none⟩ = some (.int .i64 v))) (by kernel_rfl) (⟨q0, ko, kd⟩) (fun hHeld => ?_)
                  replace hU := hU.move (Below.drew (Below.refl _ _))
                  replace hX : Box wr.drew w.heap.size 30 #[.slice (some ⟨bo, oo, none⟩) n0 c0, .slice (some ⟨bn, on, none⟩) n1 c1] := hX
                  replace q0 : wr.drew.cell? ⟨w.heap.size, 0, none⟩ = some (.slice (some ⟨bo, oo, none⟩) n0 c0) := q0
                  replace ko : wr.drew.cell? ⟨bo, oo + v, none⟩ = some (.int .i64 (gi o v)) := ko
                  replace kd : wr.drew.cell? ⟨bd, od_ + k, none⟩ = some (.int .i64 v) := kd
                  generalize wr.drew = wd at *
                  have g0 := hU.box.d0
                  refine takeH0 (v := ?_) (by kernel_rfl) (by kernel_rfl) (by kernel_rfl) (fun _ _ _ h => h) hHeld (by rfl) ?_ ?_
                  rotate_left; · (intro w hSw; (try dsimp only at hSw); go_simp; try with_reducible rfl)
                  try simp only [Act.put, List.setIfInBounds_toArray, List.set_cons_zero, List.set_cons_succ]
                  refine takeH2 (v := ?_) (by kernel_rfl) (by kernel_rfl) (by kernel_rfl) (fun _ _ _ h => h) hHeld (by rfl) ?_ ?_
                  rotate_left; · (intro w hSw; (try dsimp only at hSw); go_simp; try with_reducible rfl)
                  try simp only [Act.put, List.setIfInBounds_toArray, List.set_cons_zero, List.set_cons_succ]
                  refine takeH3 (v := ?_) (by kernel_rfl) (by kernel_rfl) (by kernel_rfl) (fun _ _ _ h => h) hHeld (by rfl) ?_ ?_
                  rotate_left; · (intro w hSw; (try dsimp only at hSw); go_simp; try with_reducible rfl)
                  try simp only [Act.put, List.setIfInBounds_toArray, List.set_cons_zero, List.set_cons_succ]
                  refine takeH4 (v := ?_) (by kernel_rfl) (by kernel_rfl) (by kernel_rfl) (fun _ _ _ h => h) hHeld (by rfl) ?_ ?_
                  rotate_left; · (intro w hSw; (try dsimp only at hSw); go_simp; try with_reducible rfl)
                  try simp only [Act.put, List.setIfInBounds_toArray, List.set_cons_zero, List.set_cons_succ]
                  refine takeH5 (v := ?_) (by kernel_rfl) (by kernel_rfl) (by kernel_rfl) (fun _ _ _ h => h) hHeld (by rfl) ?_ ?_
                  rotate_left; · (intro w hSw; (try dsimp only at hSw); go_simp; try with_reducible rfl)
                  try simp only [Act.put, List.setIfInBounds_toArray, List.set_cons_zero, List.set_cons_succ]
                  refine takeH6 (v := ?_) (by kernel_rfl) (by kernel_rfl) (by kernel_rfl) (fun _ _ _ h => h) hHeld (by rfl) ?_ ?_
                  rotate_left; · (intro w hSw; (try dsimp only at hSw); go_simp; try with_reducible rfl)
                  try simp only [Act.put, List.setIfInBounds_toArray, List.set_cons_zero, List.set_cons_succ]
                  refine takeH7 (v := ?_) (by kernel_rfl) (by kernel_rfl) (by kernel_rfl) (fun _ _ _ h => h) hHeld (by rfl) ?_ ?_
                  rotate_left; · (intro w hSw; (try dsimp only at hSw); go_simp; try with_reducible rfl)
                  try simp only [Act.put, List.setIfInBounds_toArray, List.set_cons_zero, List.set_cons_succ]
                  refine takeH8 (v := ?_) (by kernel_rfl) (by kernel_rfl) (by kernel_rfl) (fun _ _ _ h => h) hHeld (by rfl) ?_ ?_
                  rotate_left; · (intro w hSw; (try dsimp only at hSw); go_simp; try with_reducible rfl)
                  try simp only [Act.put, List.setIfInBounds_toArray, List.set_cons_zero, List.set_cons_succ]
                  refine takeH9 (v := ?_) (by kernel_rfl) (by kernel_rfl) (by kernel_rfl) (fun _ _ _ h => h) hHeld (by rfl) ?_ ?_
                  rotate_left; · (intro w hSw; (try dsimp only at hSw); go_simp; try with_reducible rfl)
                  try simp only [Act.put, List.setIfInBounds_toArray, List.set_cons_zero, List.set_cons_succ]
                  refine twoH_1_10 (by kernel_rfl) (fun K hK => ?_) (fun K hK => ?_)
                  · go_simp
                    refine hK.out _ _ (⟨q0, ko, kd⟩) (fun hHeld => ?_)
                    clear hK K
                    try simp only [Act.put, List.setIfInBounds_toArray, List.set_cons_zero, List.set_cons_succ]
                    refine callH10 (by kernel_rfl) (fun K hK => ?_)
                    have q0A : (wd.alloc (.cells #[.int .i64 (gi o v)] 2)).cell? ⟨w.heap.size, 0, none⟩ = some (.slice (some ⟨bo, oo, none⟩) n0 c0) := keepA q0
                    have koA : (wd.alloc (.cells #[.int .i64 (gi o v)] 2)).cell? ⟨bo, oo + v, none⟩ = some (.int .i64 (gi o v)) := keepA ko
                    have kdA : (wd.alloc (.cells #[.int .i64 (gi o v)] 2)).cell? ⟨bd, od_ + k, none⟩ = some (.int .i64 v) := keepA kd
                    go_simp
                    refine hK.out _ _ (⟨q0A, koA, kdA⟩) (fun hHeld => ?_)
                    clear hK K
                    try simp only [Act.put, List.setIfInBounds_toArray, List.set_cons_zero, List.set_cons_succ]
                    refine callH11 (by kernel_rfl) (fun K hK => ?_)
                    have hq1 : RI (wd.alloc (.cells #[.int .i64 (gi o v)] 2)) (some ⟨wd.heap.size, 0, none⟩) 1 1 [gi o v] := RI.one1 ((Box.new wd 2 #[.int .i64 (gi o v)]).cell 0)
                    have hbA : Below wd.heap.size wd (wd.alloc (.cells #[.int .i64 (gi o v)] 2)) := below_alloc (Nat.le_refl _) (Below.refl _ _)
                    have hUA := hU.move hbA
                    have hlA := hUA.size
                    refine step_of_list (by rfl) (wp_appI (.tmp 73) (.tmp 82) (by rfl) (wd.alloc (.cells #[.int .i64 (gi o v)] 2)) (wz.heap.size + 1) (.slice U0 k e0) (insUp o n set k).1 (by rfl) hUA.own.row0 (some ⟨wd.heap.size, 0, none⟩) 1 1 [gi o v] (by rfl) hq1 (by rw [HI1.out]; omega) (by omega) hlA ?_)
                    intro v7 w7 ho7 hb7 hc7 hat7
                    obtain ⟨A7, c7, h7e⟩ := ho7.form
                    have h7f : v7 = .slice A7 (k + 1) c7 := by rw [h7e, List.length_append, HI1.out]; rfl
                    clear h7e
                    subst h7f
                    have hM := hUA.app0 hc7 ho7 hat7
                    have hXA : Box (wd.alloc (.cells #[.int .i64 (gi o v)] 2)) w.heap.size 30 #[.slice (some ⟨bo, oo, none⟩) n0 c0, .slice (some ⟨bn, on, none⟩) n1 c1] := hX.alloc _
                    have hX7 : Box w7 w.heap.size 30 #[.slice (some ⟨bo, oo, none⟩) n0 c0, .slice (some ⟨bn, on, none⟩) n1 c1] := (hc7.block _ hXA.lt (fun e => by have := hUA.own.oldA _ (.inl e); have := hUA.ord; omega)).trans hXA
                    have g7 := hM.box.d0
                    have f7 := hM.box.hot 0
                    have q0 := hX7.d0
                    have ko := below_cell hM.below hcko
                    have kd := below_cell hM.below hckd
                    clear hUA hXA hq1 hbA hat7
                    refine hK.out _ _ (⟨q0, ko, kd⟩) (fun hHeld => ?_)
                    clear hK K
                    try simp only [Act.put, List.setIfInBounds_toArray, List.set_cons_zero, List.set_cons_succ]
                    refine takeH12 (v := ?_) (by kernel_rfl) (by kernel_rfl) (by kernel_rfl) (fun _ _ _ h => h) hHeld (by rfl) ?_ ?_
                    rotate_left; · (intro w hSw; (try dsimp only at hSw); go_simp; try with_reducible rfl)
                    try simp only [Act.put, List.setIfInBounds_toArray, List.set_cons_zero, List.set_cons_succ]
                    refine callH13 (by kernel_rfl) (fun K hK => ?_)
                    have hU8 := hM.store
                    have hX8 : Box (w7.setCell ⟨wz.heap.size, 0, none⟩ (.slice A7 (k + 1) c7)) w.heap.size 30 #[.slice (some ⟨bo, oo, none⟩) n0 c0, .slice (some ⟨bn, on, none⟩) n1 c1] := hX7.far (by show w.heap.size ≠ wz.heap.size; omega) _
                    have q0 := hX8.d0
                    have ko := below_cell hU8.below hcko
                    have kd := below_cell hU8.below hckd
                    go_simp
                    refine hK.out _ _ (⟨q0, ko, kd⟩) (fun hHeld => ?_)
                    clear hK K
                    try simp only [Act.put, List.setIfInBounds_toArray, List.set_cons_zero, List.set_cons_succ]
                    refine wpAnyH_done (by kernel_rfl) ?_ _
                    have hl8 := hU8.size
                    have hop8 := hU8.own
                    have g18 := hU8.box.d1
                    clear hM hX7 g7 f7
                    generalize (w7.setCell ⟨wz.heap.size, 0, none⟩ (.slice A7 (k + 1) c7)) = w8 at *
                    go_wp2_with (at_builtin; refine wpList_pushU rfl (.tmp 86) (.tmp 88) (by rfl) w8 (wz.heap.size + 1) (.slice A7 (k + 1) c7) (.slice U1 k e1) (.slice Av nx.length cv) ((insUp o n set k).1 ++ [gi o v], (insUp o n set k).2, nx) (by rfl) (by rfl) hl8 hop8 (by show (insUp o n set k).2.length ≤ 4194304; rw [HI2.out]; omega) ?_; intro t1 w9 ho9 hb9 hc9 hat9; obtain ⟨A8, c8, A9, c9, h0e9, h1e9⟩ := ho9.form; have h1e : t1 = .slice A9 (k + 1) c9 := (by rw [h1e9, List.length_append, HI2.out]; rfl); clear h0e9 h1e9 hat9; subst h1e; obtain ⟨bx9, hG9⟩ := hU8.app1 hc9 ho9; have g9 := bx9.d1; have f9 := bx9.hot 1; clear bx9)
                    have HG9 := Lib.hid hG9
                    exact ⟨⟨k + 1, _, _, by omega, by go_num, HGD.out, by rw [HN.out]; exact HG9.out⟩, by simp [intOf]; omega⟩
                  · have q0A : (wd.alloc (.cells #[.int .i64 (gi o v)] 2)).cell? ⟨w.heap.size, 0, none⟩ = some (.slice (some ⟨bo, oo, none⟩) n0 c0) := keepA q0
                    have koA : (wd.alloc (.cells #[.int .i64 (gi o v)] 2)).cell? ⟨bo, oo + v, none⟩ = some (.int .i64 (gi o v)) := keepA ko
                    have kdA : (wd.alloc (.cells #[.int .i64 (gi o v)] 2)).cell? ⟨bd, od_ + k, none⟩ = some (.int .i64 v) := keepA kd
                    have g0A : ∀ o, (wd.alloc o).cell? ⟨wz.heap.size, 0, none⟩ = some (.slice U0 k e0) := fun o => keepA g0
                    go_simp
                    refine hK.out _ _ (⟨q0A, koA, kdA⟩) (fun hHeld => ?_)
                    clear hK K
                    try simp only [Act.put, List.setIfInBounds_toArray, List.set_cons_zero, List.set_cons_succ]
                    refine callH1 (by kernel_rfl) (fun K hK => ?_)
                    go_simp
                    refine hK.out _ _ (⟨q0A, koA, kdA⟩) (fun hHeld => ?_)
                    clear hK K
                    try simp only [Act.put, List.setIfInBounds_toArray, List.set_cons_zero, List.set_cons_succ]
                    refine callH11 (by kernel_rfl) (fun K hK => ?_)
                    have hq1 : RI (wd.alloc (.cells #[.int .i64 (gi o v)] 2)) (some ⟨wd.heap.size, 0, none⟩) 1 1 [gi o v] := RI.one1 ((Box.new wd 2 #[.int .i64 (gi o v)]).cell 0)
                    have hbA : Below wd.heap.size wd (wd.alloc (.cells #[.int .i64 (gi o v)] 2)) := below_alloc (Nat.le_refl _) (Below.refl _ _)
                    have hUA := hU.move hbA
                    have hlA := hUA.size
                    refine step_of_list (by rfl) (wp_appI (.tmp 73) (.tmp 82) (by rfl) (wd.alloc (.cells #[.int .i64 (gi o v)] 2)) (wz.heap.size + 1) (.slice U0 k e0) (insUp o n set k).1 (by rfl) hUA.own.row0 (some ⟨wd.heap.size, 0, none⟩) 1 1 [gi o v] (by rfl) hq1 (by rw [HI1.out]; omega) (by omega) hlA ?_)
                    intro v7 w7 ho7 hb7 hc7 hat7
                    obtain ⟨A7, c7, h7e⟩ := ho7.form
                    have h7f : v7 = .slice A7 (k + 1) c7 := by rw [h7e, List.length_append, HI1.out]; rfl
                    clear h7e
                    subst h7f
                    have hM := hUA.app0 hc7 ho7 hat7
                    have hXA : Box (wd.alloc (.cells #[.int .i64 (gi o v)] 2)) w.heap.size 30 #[.slice (some ⟨bo, oo, none⟩) n0 c0, .slice (some ⟨bn, on, none⟩) n1 c1] := hX.alloc _
                    have hX7 : Box w7 w.heap.size 30 #[.slice (some ⟨bo, oo, none⟩) n0 c0, .slice (some ⟨bn, on, none⟩) n1 c1] := (hc7.block _ hXA.lt (fun e => by have := hUA.own.oldA _ (.inl e); have := hUA.ord; omega)).trans hXA
                    have g7 := hM.box.d0
                    have f7 := hM.box.hot 0
                    have q0 := hX7.d0
                    have ko := below_cell hM.below hcko
                    have kd := below_cell hM.below hckd
                    clear hUA hXA hq1 hbA hat7
                    refine hK.out _ _ (⟨q0, ko, kd⟩) (fun hHeld => ?_)
                    clear hK K
                    try simp only [Act.put, List.setIfInBounds_toArray, List.set_cons_zero, List.set_cons_succ]
                    refine takeH12 (v := ?_) (by kernel_rfl) (by kernel_rfl) (by kernel_rfl) (fun _ _ _ h => h) hHeld (by rfl) ?_ ?_
                    rotate_left; · (intro w hSw; (try dsimp only at hSw); go_simp; try with_reducible rfl)
                    try simp only [Act.put, List.setIfInBounds_toArray, List.set_cons_zero, List.set_cons_succ]
                    refine callH13 (by kernel_rfl) (fun K hK => ?_)
                    have hU8 := hM.store
                    have hX8 : Box (w7.setCell ⟨wz.heap.size, 0, none⟩ (.slice A7 (k + 1) c7)) w.heap.size 30 #[.slice (some ⟨bo, oo, none⟩) n0 c0, .slice (some ⟨bn, on, none⟩) n1 c1] := hX7.far (by show w.heap.size ≠ wz.heap.size; omega) _
                    have q0 := hX8.d0
                    have ko := below_cell hU8.below hcko
                    have kd := below_cell hU8.below hckd
                    go_simp
                    refine hK.out _ _ (⟨q0, ko, kd⟩) (fun hHeld => ?_)
                    clear hK K
                    try simp only [Act.put, List.setIfInBounds_toArray, List.set_cons_zero, List.set_cons_succ]
                    refine wpAnyH_done (by kernel_rfl) ?_ _
                    have hl8 := hU8.size
                    have hop8 := hU8.own
                    have g18 := hU8.box.d1
                    clear hM hX7 g7 f7
                    generalize (w7.setCell ⟨wz.heap.size, 0, none⟩ (.slice A7 (k + 1) c7)) = w8 at *
                    go_wp2_with (at_builtin; refine wpList_pushU rfl (.tmp 86) (.tmp 88) (by rfl) w8 (wz.heap.size + 1) (.slice A7 (k + 1) c7) (.slice U1 k e1) (.slice Av nx.length cv) ((insUp o n set k).1 ++ [gi o v], (insUp o n set k).2, nx) (by rfl) (by rfl) hl8 hop8 (by show (insUp o n set k).2.length ≤ 4194304; rw [HI2.out]; omega) ?_; intro t1 w9 ho9 hb9 hc9 hat9; obtain ⟨A8, c8, A9, c9, h0e9, h1e9⟩ := ho9.form; have h1e : t1 = .slice A9 (k + 1) c9 := (by rw [h1e9, List.length_append, HI2.out]; rfl); clear h0e9 h1e9 hat9; subst h1e; obtain ⟨bx9, hG9⟩ := hU8.app1 hc9 ho9; have g9 := bx9.d1; have f9 := bx9.hot 1; clear bx9)
                    have HG9 := Lib.hid hG9
                    exact ⟨⟨k + 1, _, _, by omega, by go_num, HGD.out, by rw [HN.out]; exact HG9.out⟩, by simp [intOf]; omega⟩
                · have E := Lib.hid (HGB.out hz)
                  have E2 := Lib.hid (insA_no E.out)
                  have hne2 : ((nx.length : Int) == 0) = true := by rw [beq_iff_eq]; omega
                  have hZr := (hG.move (below_drewN hbr2 nq)).zero
                  have hwr2 := below_drewN hwr nq
                  clear hz
                  have z0 := hZr.d0; have z1 := hZr.d1; have y0 := hZr.hot 0; have y1 := hZr.hot 1
                  go_wp2
                  obtain ⟨hwZ, bxZ⟩ := zero2 hwr2 (by omega) hZr (.slice none 0 0) (.slice none 0 0)
                  have R0 := bxZ.d0; have R1 := bxZ.d1
                  exact bodyPost_ret (v := .tuple #[.agg #[.slice none 0 0, .slice none 0 0], .bool false]) (by simp [results, Try.results150, go_sem, R0, R1]) rfl ⟨_, _, by rw [E.out], by rw [E2.out]; exact OArn.nil _ _, hwZ.mono hB⟩
          · obtain rfl : k = m := by omega
            have E := Lib.hid (okIns_yes H1.out (by rw [HL.out]; exact H2.out) (by rw [HD.out]; exact hm) (by rw [HD.out]; exact HG.out))
            have E2 := Lib.hid (show insA o n set = insUp o n set k by rw [insA_yes E.out, HD.out])
            have g0 := hG.box.d0; have g1 := hG.box.d1
            have z0 := hG.zero.d0; have z1 := hG.zero.d1
            have F0 := hG.zero.hot 0; have F1 := hG.zero.hot 1
            obtain ⟨hF1, hF2, hF3⟩ := hG.fin
            have R0 := hF3.d0; have R1 := hF3.d1
            go_wp2
            exact bodyPost_ret (v := .tuple #[.agg #[.slice U0 k e0, .slice U1 k e1], .bool true]) (by simp [results, Try.results150, go_sem, R0, R1]) rfl ⟨_, _, by rw [E.out], by rw [E2.out]; exact hF1.more (by omega), hF2.mono hB⟩
      · have hne : ((m : Int) == 0) = true := by rw [beq_iff_eq]; omega
        have E := Lib.hid (okIns_no3 (o := o) (n := n) (set := set) (fun h => hm (by rw [← HD.out]; exact h.1)))
        have E2 := Lib.hid (insA_no E.out)
        clear hm
        have z0 := br3.d0; have z1 := br3.d1; have y0 := br3.hot 0; have y1 := br3.hot 1
        go_wp2
        obtain ⟨hwZ, bxZ⟩ := zero2 hw3 (by omega) br3 (.slice none 0 0) (.slice none 0 0)
        have R0 := bxZ.d0; have R1 := bxZ.d1
        exact bodyPost_ret (v := .tuple #[.agg #[.slice none 0 0, .slice none 0 0], .bool false]) (by simp [results, Try.results150, go_sem, R0, R1]) rfl ⟨_, _, by rw [E.out], by rw [E2.out]; exact OArn.nil _ _, hwZ.mono hB⟩

end Go.Proofs.Ytlmhhnplacejkaa
