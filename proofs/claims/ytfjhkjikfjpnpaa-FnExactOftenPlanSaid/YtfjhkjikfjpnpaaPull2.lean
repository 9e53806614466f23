/- The attractor's plan in the reference: PullIn; ReachPlan. -/
import Derived.Test.YtfjhkjikfjpnpaaPull
namespace Go.Proofs.Ytfjhkjikfjpnpaa
open Go.RowKit

def pullQ (rk : List Int) (v u : Nat) : Bool := gi rk u == gi rk v - 1
theorem pullQ_iff {ins : List Bool} {rk : List Int} {v u : Nat} (h : 1 ≤ gi rk v) (hin : 0 ≤ gi rk u → gb ins u = true) : pullA ins rk v u = pullQ rk v u := by
  unfold pullA pullQ
  cases e : (gi rk u == gi rk v - 1) with
  | false => rw [Bool.and_false]
  | true =>
    have : gi rk u = gi rk v - 1 := by simpa using e
    rw [hin (by omega)]; rfl
set_option maxRecDepth 100000 in
set_option maxHeartbeats 3200000 in
theorem specPullIn (A0 A1 C1 C2 : Option Addr) (n0 c0 n1 c1 k1 d1 k2 d2 : Nat) (o : List Int) (n : List (List Int)) (who : Int) (inn goal : List Int) (w : World) (B : Nat) (hB : B ≤ w.heap.size) (ha : RI w A0 n0 c0 o) (hb : RII w A1 n1 c1 n) (hi : RI w C1 k1 d1 inn) (hg : RI w C2 k2 d2 goal) (hok : okA o n who inn = true) (hok2 : okA o n who goal = true) :
    Calls Try.prog 122 #[.agg #[.slice A0 n0 c0, .slice A1 n1 c1], .int .i64 who, .slice C1 k1 d1, .slice C2 k2 d2] w fun e w' => ∃ v, e = .returned v ∧ OI 2 w' B v (pullL o n who inn goal) ∧ Below B w w' := by
  obtain ⟨p1, _, p3⟩ := okA_parts hok
  obtain ⟨_, _, p4⟩ := okA_parts hok2
  have hf := fineAr_of p1
  have b1 := ha.cap; have b2 := ha.top; have b3 := hb.cap; have b4 := hb.top
  have HL := Lib.hid ha.len; have HM := Lib.hid hb.len
  have hn0 : n0 ≤ 256 := by have := hf.2.1; rw [HL.out] at this; omega
  have hm0 : 0 < n0 := by have := hf.1; rw [HL.out] at this; omega
  have H01 := Lib.hid (show n1 = n0 by rw [← HM.out, hf.2.2.1, HL.out])
  have HF := Lib.hid hf
  have HP3 := Lib.hid p3; have HP4 := Lib.hid p4
  have HO1 := Lib.hid hok; have HO2 := Lib.hid hok2
  have hll : (ranksL o n who inn goal).length = n0 := by rw [ranksL_len, HL.out]
  have HIN := Lib.hid (fun (u : Nat) (hu : u < n0) (h : 0 ≤ gi (ranksL o n who inn goal) u) => (show gb (mkM n0 inn) u = true by rw [← HL.out]; exact ranksL_in (by rw [HL.out]; exact hu) h))
  have HRB := Lib.hid (fun u => ranksL_bound o n who inn goal u)
  have HRT := Lib.hid (show ∀ u, gi (ranksL o n who inn goal) u ≤ 256 from fun u => by
    rw [ranksL_eq]; exact rnks_all (by rw [HL.out]; exact hn0) u)
  have E := Lib.hid (show pullL o n who inn goal = fill (pullV o n who (mkM n0 inn) (ranksL o n who inn goal)) n0 by unfold pullL; rw [HL.out])
  clear hok hok2 p1 p3 p4 hf
  have hba : Below w.heap.size w ((w.alloc (.cells #[.slice A0 n0 c0, .slice A1 n1 c1] 42)).alloc (.cells #[] 2)) := below_alloc (Nat.le_refl _) (below_alloc (Nat.le_refl _) (Below.refl _ _))
  have bx := (Box.new w 42 #[.slice A0 n0 c0, .slice A1 n1 c1]).alloc (.cells #[] 2)
  have hem : OI 2 ((w.alloc (.cells #[.slice A0 n0 c0, .slice A1 n1 c1] 42)).alloc (.cells #[] 2)) (w.heap.size + 1) (.slice (some ⟨w.heap.size + 1, 0, none⟩) 0 0) [] := by
    have := OI.empty (E := 2) (w := w.alloc (.cells #[.slice A0 n0 c0, .slice A1 n1 c1] 42)) (B := w.heap.size + 1) (by simp)
    simpa using this
  have hz0 : w.heap.size + 2 ≤ ((w.alloc (.cells #[.slice A0 n0 c0, .slice A1 n1 c1] 42)).alloc (.cells #[] 2)).heap.size := by simp
  have q0 := bx.d0; have q1 := bx.d1
  go_enter Try.func122, Try.ntmps122
  go_wp2_with fail
  generalize ((w.alloc (.cells #[.slice A0 n0 c0, .slice A1 n1 c1] 42)).alloc (.cells #[] 2)) = W at *
  clear q0 q1
  refine (l3Ok _ _ _ _ _ _ _ _ _ _ _ _ inn _ _ (Nat.le_refl _) (ha.keep (keeps_below hba)) (hb.keep (keeps_below hba)) (hi.keep (keeps_below hba))).mono ?_; rintro e w1 ⟨rfl, hb1⟩
  rw [HO1.out]
  have hw1 := below_then hb1 hba.size hba
  replace bx := bx.below hb1 bx.lt
  replace hem := hem.below hb1
  have hz1 := hb1.size
  clear hb1 hba
  have q0 := bx.d0; have q1 := bx.d1
  go_wp2_with fail
  clear q0 q1
  refine (l3Ok _ _ _ _ _ _ _ _ _ _ _ _ goal _ _ (Nat.le_refl _) (ha.keep (keeps_below hw1)) (hb.keep (keeps_below hw1)) (hg.keep (keeps_below hw1))).mono ?_; rintro e w2 ⟨rfl, hb2⟩
  rw [HO2.out]
  have hw2 := below_then hb2 hw1.size hw1
  replace bx := bx.below hb2 bx.lt
  replace hem := hem.below hb2
  have hz2 := hb2.size
  clear hb2
  have q0 := bx.d0; have q1 := bx.d1
  go_wp2_with fail
  clear q0 q1
  refine (l3Ranks _ _ _ _ _ _ _ _ _ _ _ _ _ _ _ _ _ _ _ (Nat.le_refl _) (ha.keep (keeps_below hw2)) (hb.keep (keeps_below hw2)) (hi.keep (keeps_below hw2)) (hg.keep (keeps_below hw2)) HF.out HP3.out HP4.out).mono ?_; rintro e w3 ⟨v1, rfl, hr, hb3⟩
  have hw3 := below_then hb3 hw2.size hw2
  replace bx := bx.below hb3 bx.lt
  replace hem := hem.below hb3
  obtain ⟨gR, cR, rfl⟩ := hr.form2 (by omega)
  rw [hll] at hr ⊢
  obtain ⟨hgR0, hgR⟩ : w2.heap.size ≤ gR ∧ gR < w3.heap.size := hr.lt gR rfl
  have HLL := Lib.hid hll
  generalize ranksL o n who inn goal = L at *
  have hz3 := hb3.size
  clear hll hb3 hw1 hw2
  have bc := hr.reads.cap; have bt := hr.reads.top
  go_wp2
  go_loopw [9, 11] (fun x i wr => ∃ k : Nat, k ≤ n0 ∧ i = .int .i64 k ∧ OI 2 wr (w.heap.size + 1) x (fill (pullV o n who (mkM n0 inn) L) k) ∧ (∀ b, x.ownBlock = some b → b = w.heap.size + 1 ∨ w3.heap.size ≤ b) ∧ Chg (fun b => b = w.heap.size + 1) w3 wr) (fun _ i _ => n0 - (intOf i).toNat)
  case atStart => exact ⟨0, Nat.zero_le _, rfl, hem, fun b hb => by have hb' : some (w.heap.size + 1) = some b := hb; injection hb' with e; exact .inl e.symm, Chg.refl _ _⟩
  case round =>
    obtain ⟨wo, rfl⟩ : ∃ wo : World, wo = wr := ⟨_, rfl⟩
    obtain ⟨k, hk, rfl, ho, hxb, hch⟩ := hrel
    obtain ⟨Av, cv, rfl⟩ := ho.form
    have hfl := fill_len (pullV o n who (mkM n0 inn) L) k
    have hlen : (fill (pullV o n who (mkM n0 inn) L) k).length ≤ 4194304 := by rw [hfl]; omega
    have HO := Lib.hid ho
    have hsz := hch.size
    have hsz1 : w.heap.size + 1 ≤ wo.heap.size := by omega
    have bxr := bx.chg hch (by omega)
    have hrr := hr.chg hch (fun b hb hs => by have := (hr.lt b hb).1; have hs' : b = w.heap.size + 1 := hs; omega)
    have hww : Below w.heap.size w wo := hw3.trans (hch.below (by omega) (fun b hb => by have : b = w.heap.size + 1 := hb; omega))
    clear ho hfl hem bx
    have q0 := bxr.d0; have q1 := bxr.d1
    by_cases hlt0 : k < n0
    · have hlt : k < n1 := by have := H01.out; omega
      obtain ⟨ba, oa, rfl, hcA⟩ := (ha.keep (keeps_below hww)).at_ hlt0
      obtain ⟨bn, on, An, nn, cn, rfl, hcN, rn⟩ := (hb.keep (keeps_below hww)).at_ hlt
      have hcL := hrr.cellAt (i := k) (by rw [HLL.out]; exact hlt0)
      obtain ⟨_, ⟨hd1, hd2⟩, hset⟩ := HF.out.2.2.2 k (by rw [HL.out]; exact hlt0)
      rw [HL.out] at hset
      rw [rn.len] at hd1 hd2
      have HN := Lib.hid rn.len
      have HSET := Lib.hid hset; clear hset
      have bn1 := rn.cap; have bn2 := rn.top
      have hki : (k : Int) < (n0 : Int) := by omega
      have hki1 : (k : Int) < (n1 : Int) := by omega
      have hk0 : (0 : Int) ≤ (k : Int) := by omega
      have HS := Lib.hid (fill_succ (pullV o n who (mkM n0 inn) L) k)
      by_cases hcond : 1 ≤ gi L k ∧ gi o k = who
      · have EV := Lib.hid (show pullV o n who (mkM n0 inn) L k = firstU (pullA (mkM n0 inn) L k) (gl n k) nn by unfold pullV; rw [if_pos hcond, HN.out])
        obtain ⟨hge, hwh⟩ := hcond
        have hne : (gi o k == who) = true := by simp [hwh]
        have hdp : decide (0 < gi L k) = true := decide_eq_true (by omega)
        have hL256 : gi L k ≤ 9223372036854775807 := by have := HRT.out k; omega
        have e1 : IntKind.i64.wrap (gi L k - 1) = gi L k - 1 := IntWalk.i64_in _ (by omega)
        clear hwh
        go_wp2
        go_loopw [12, 13] (fun x i wr => ∃ (j : Nat) (p : Int), j ≤ nn ∧ i = .int .i64 j ∧ x = .int .i64 p ∧ p = firstU (pullA (mkM n0 inn) L k) (gl n k) j ∧ (p < 0 → p = -1) ∧ ∃ q, wr = wo.drewN q) (fun _ i _ => nn - (intOf i).toNat)
        case atStart => exact ⟨0, -1, Nat.zero_le _, rfl, rfl, rfl, fun _ => rfl, 0, rfl⟩
        case round =>
          obtain ⟨j, p, hj, rfl, rfl, hp, hpn, q, rfl⟩ := hrel
          have HP := Lib.hid hp; have HPN := Lib.hid hpn; clear hp hpn
          by_cases hjl : j < nn
          · have hji : (j : Int) < (nn : Int) := by omega
            have hj0 : (0 : Int) ≤ (j : Int) := by omega
            have d1 : decide ((j : Int) < (nn : Int)) = true := by simpa using hjl
            by_cases hp0 : p < 0
            · obtain ⟨u, hu, hun⟩ := set_nat HSET.out (show j < (gl n k).length by rw [HN.out]; exact hjl)
              obtain ⟨bu, ou, rfl, hcU⟩ := rn.at_ hjl
              have hcu := hrr.cellAt (i := u) (by rw [HLL.out]; exact hun)
              have hui : (u : Int) < (n0 : Int) := by omega
              have hu0 : (0 : Int) ≤ (u : Int) := by omega
              have X := Lib.hid (firstU_at (al := pullA (mkM n0 inn) L k) hu (by rw [← HP.out]; exact hp0))
              rw [hu] at hcU
              have X2 := Lib.hid (HPN.out hp0)
              have X3 := Lib.hid (pullQ_iff hge (HIN.out u hun))
              have dp : decide (p < 0) = true := decide_eq_true hp0
              clear hu
              go_wp2_with fail
              go_quiet (fail)
              cases hg2 : pullQ L k u with
              | true =>
                have Y := Lib.hid (show firstU (pullA (mkM n0 inn) L k) (gl n k) (j + 1) = (u : Int) by rw [X.out, if_pos (by rw [X3.out, hg2])])
                unfold pullQ at hg2
                go_wp2
                go_roundw
                case rel => exact ⟨j + 1, _, by omega, by go_num, rfl, by rw [Y.out], by omega, _, rfl⟩
                case measure => simp [intOf]; omega
              | false =>
                have Y := Lib.hid (show firstU (pullA (mkM n0 inn) L k) (gl n k) (j + 1) = p by rw [X.out, if_neg (by rw [X3.out, hg2]; simp), X2.out])
                unfold pullQ at hg2
                go_wp2
                go_roundw
                case rel => exact ⟨j + 1, p, by omega, by go_num, rfl, by rw [Y.out], HPN.out, _, rfl⟩
                case measure => simp [intOf]; omega
            · have Y := Lib.hid (show pullV o n who (mkM n0 inn) L k = p by
                rw [EV.out, HP.out]
                have := firstU_stay (al := pullA (mkM n0 inn) L k) (ns := gl n k) (k := j) (by rw [← HP.out]; omega) (nn - j)
                rw [show j + (nn - j) = nn from by omega] at this
                exact this)
              have hp1 : 0 ≤ p := by omega
              go_wp2_with (at_builtin; refine wpList_pushI rfl (.tmp 94) (.tmp 96) rfl (wo.drewN q) (w.heap.size + 1) (.slice Av (fill (pullV o n who (mkM n0 inn) L) k).length cv) (fill (pullV o n who (mkM n0 inn) L) k) rfl (HO.out.drewN q) p rfl hlen hsz1 ?_; intro v2 w2 ho2 hb2 hc2 hat2)
              exact ⟨⟨k + 1, by omega, by go_num, by rw [HS.out, Y.out]; exact ho2, fun b hb => (hat2 b hb).elim (hxb b) (fun h => .inr (Nat.le_trans hsz h)), (hch.drewN q).push hc2 hxb⟩, by simp [intOf]; omega⟩
          · obtain rfl : j = nn := by omega
            have d1 : decide ((j : Int) < (j : Int)) = false := by simp
            have Y := Lib.hid (show pullV o n who (mkM n0 inn) L k = p by rw [EV.out, HP.out])
            go_wp2_with (at_builtin; refine wpList_pushI rfl (.tmp 94) (.tmp 96) rfl (wo.drewN q) (w.heap.size + 1) (.slice Av (fill (pullV o n who (mkM n0 inn) L) k).length cv) (fill (pullV o n who (mkM n0 inn) L) k) rfl (HO.out.drewN q) p rfl hlen hsz1 ?_; intro v2 w2 ho2 hb2 hc2 hat2)
            exact ⟨⟨k + 1, by omega, by go_num, by rw [HS.out, Y.out]; exact ho2, fun b hb => (hat2 b hb).elim (hxb b) (fun h => .inr (Nat.le_trans hsz h)), (hch.drewN q).push hc2 hxb⟩, by simp [intOf]; omega⟩
      · have Y := Lib.hid (show pullV o n who (mkM n0 inn) L k = -1 from if_neg hcond)
        have hnn : (0 : Int) < (nn : Int) := by omega
        have d1 : decide ((0 : Int) < (nn : Int)) = true := by simpa using hnn
        cases hge : decide (0 < gi L k) with
        | false =>
          cases hne : (gi o k == who) with
          | false =>
            clear hcond
            go_wp2
            refine wp_loop_rounds 1 ?_
            rw [rounds_succ]
            go_wp2_with (at_builtin; refine wpList_pushI rfl (.tmp 94) (.tmp 96) rfl (wo) (w.heap.size + 1) (.slice Av (fill (pullV o n who (mkM n0 inn) L) k).length cv) (fill (pullV o n who (mkM n0 inn) L) k) rfl (HO.out) (-1) rfl hlen hsz1 ?_; intro v2 w2 ho2 hb2 hc2 hat2)
            exact ⟨⟨k + 1, by omega, by go_num, by rw [HS.out, Y.out]; exact ho2, fun b hb => (hat2 b hb).elim (hxb b) (fun h => .inr (Nat.le_trans hsz h)), (hch).push hc2 hxb⟩, by simp [intOf]; omega⟩
          | true =>
            clear hcond
            go_wp2
            refine wp_loop_rounds 1 ?_
            rw [rounds_succ]
            go_wp2_with (at_builtin; refine wpList_pushI rfl (.tmp 94) (.tmp 96) rfl (wo) (w.heap.size + 1) (.slice Av (fill (pullV o n who (mkM n0 inn) L) k).length cv) (fill (pullV o n who (mkM n0 inn) L) k) rfl (HO.out) (-1) rfl hlen hsz1 ?_; intro v2 w2 ho2 hb2 hc2 hat2)
            exact ⟨⟨k + 1, by omega, by go_num, by rw [HS.out, Y.out]; exact ho2, fun b hb => (hat2 b hb).elim (hxb b) (fun h => .inr (Nat.le_trans hsz h)), (hch).push hc2 hxb⟩, by simp [intOf]; omega⟩
        | true =>
          have hne : (gi o k == who) = false := by
            have h1 : 0 < gi L k := by simpa using hge
            have : ¬ gi o k = who := fun h => hcond ⟨by omega, h⟩
            simpa using this
          clear hcond
          go_wp2
          refine wp_loop_rounds 1 ?_
          rw [rounds_succ]
          go_wp2_with (at_builtin; refine wpList_pushI rfl (.tmp 94) (.tmp 96) rfl (wo) (w.heap.size + 1) (.slice Av (fill (pullV o n who (mkM n0 inn) L) k).length cv) (fill (pullV o n who (mkM n0 inn) L) k) rfl (HO.out) (-1) rfl hlen hsz1 ?_; intro v2 w2 ho2 hb2 hc2 hat2)
          exact ⟨⟨k + 1, by omega, by go_num, by rw [HS.out, Y.out]; exact ho2, fun b hb => (hat2 b hb).elim (hxb b) (fun h => .inr (Nat.le_trans hsz h)), (hch).push hc2 hxb⟩, by simp [intOf]; omega⟩
    · obtain rfl : k = n0 := by omega
      go_wp2
      go_ret
      exact ⟨_, rfl, by rw [E.out]; exact HO.out.more (by omega), hww.mono hB⟩


set_option maxRecDepth 100000 in
set_option maxHeartbeats 800000 in
theorem implReachPlan (s0 s1 : Value) (z : ArD) (who : Int) (C : Option Addr) (m d : Nat) (s : List Int) (w : World) (B : Nat) (hB : B ≤ w.heap.size) (ha : RAv w s0 s1 z.1 z.2) (hs : RI w C m d s) :
    Calls Try.prog 43 #[.agg #[s0, s1], .int .i64 who, .slice C m d] w fun e w' => ∃ v, e = .returned v ∧ OI 2 w' B v (reachPlanR z.1 z.2 who s) ∧ Below B w w' := by
  obtain ⟨A0, n0, c0, A1, n1, c1, rfl, rfl⟩ := ha.form
  have hr := ha.ri; have hrr := ha.rii
  have HL := Lib.hid hr.len
  have hba : Below w.heap.size w (w.alloc (.cells #[.slice A0 n0 c0, .slice A1 n1 c1] 42)) := below_alloc (Nat.le_refl _) (Below.refl _ _)
  have bx := Box.new w 42 #[.slice A0 n0 c0, .slice A1 n1 c1]
  have q0 := bx.d0; have q1 := bx.d1
  cases h : okA z.1 z.2 who s with
  | false =>
    have E := Lib.hid (show reachPlanR z.1 z.2 who s = [] from if_neg (by rw [h]; simp))
    go_enter Try.func43, Try.ntmps43
    go_wp2_with fail
    refine (canAttract _ _ _ _ _ _ _ _ _ _ _ _ _ _ _ (Nat.le_refl _) (hr.keep (keeps_below hba)) (hrr.keep (keeps_below hba)) (hs.keep (keeps_below hba))).mono ?_; rintro e w1 ⟨rfl, hb1'⟩
    have hb1 := below_then hb1' hba.size hba
    go_wp2
    go_ret
    exact ⟨_, rfl, by rw [E.out]; exact OI.nil _ _ _, hb1.mono hB⟩
  | true =>
    have HA := Lib.hid (okA_all h)
    have HO := Lib.hid h
    obtain ⟨h1, h2, h3⟩ := okA_parts h
    have HF := Lib.hid (fineAr_of h1)
    have hn0 : n0 ≤ 256 := by have := HF.out.2.1; rw [HL.out] at this; omega
    have HSA := Lib.hid (allL_set z.1.length)
    have E := Lib.hid (show reachPlanR z.1 z.2 who s = pullL z.1 z.2 who (allL z.1.length) s from if_pos h)
    have HLA := Lib.hid (show allL n0 = allL z.1.length by rw [HL.out])
    clear h1 h2
    go_enter Try.func43, Try.ntmps43
    go_wp2_with fail
    refine (canAttract _ _ _ _ _ _ _ _ _ _ _ _ _ _ _ (Nat.le_refl _) (hr.keep (keeps_below hba)) (hrr.keep (keeps_below hba)) (hs.keep (keeps_below hba))).mono ?_; rintro e w1 ⟨rfl, hb1'⟩
    have hw := below_then hb1' hba.size hba
    replace bx := bx.below hb1' bx.lt
    clear q0 q1 hb1'
    have q0 := bx.d0; have q1 := bx.d1
    go_wp2_with fail
    go_region_held3 (fun w' => w'.cell? ⟨w.heap.size, 0, none⟩ = some (.slice A0 n0 c0) ∧ w'.cell? ⟨w.heap.size, 1, none⟩ = some (.slice A1 n1 c1))
      (refine ⟨?_, ?_⟩ <;> repeat (first | with_reducible assumption | with_reducible refine keepD ?_ | with_reducible refine keepA ?_))
      (first
        | (go_at_call 101
           refine (allOf A0 A1 n0 c0 n1 c1 _ _ (Nat.le_refl _) hn0).mono ?_
           rintro e w2 ⟨v2, rfl, ho2, hb2⟩
           replace hb2 := below_undrew hb2
           rw [HLA.out] at ho2
           obtain ⟨A2, c2, rfl⟩ := ho2.form
           have hw2 := below_then hb2 hw.size hw
           have bx2 := bx.below hb2 bx.lt
           have q20 := bx2.d0
           have q21 := bx2.d1)
        | (go_at_call 110
           refine (pullIn _ _ _ _ _ _ _ _ _ _ _ _ _ _ _ _ s _ _ (Nat.le_refl _) (hr.keep (keeps_below hw2)) (hrr.keep (keeps_below hw2)) ho2.reads (hs.keep (keeps_below hw2)) HF.out HSA.out h3).mono ?_
           rintro e w3 ⟨v3, rfl, ho3, hb3⟩
           have hw3 := below_then hb3 hw2.size hw2
           have bx3 := bx2.below hb3 bx2.lt
           have q30 := bx3.d0
           have q31 := bx3.d1))
    all_goals
      go_wp2
      go_ret
      exact ⟨_, rfl, by rw [E.out]; exact ho3.more (Nat.le_trans hB hw2.size), hw3.mono hB⟩

end Go.Proofs.Ytfjhkjikfjpnpaa
