/- OftenPlan, spec: what it returns. -/
import Derived.Test.YtfjhkjikfjpnpaaOftPlanP
import Derived.Test.YtfjhkjikfjpnpaaOft
import Derived.Test.YtfjhkjikfjpnpaaPull2
namespace Go.Proofs.Ytfjhkjikfjpnpaa
open Go.RowKit

set_option maxRecDepth 100000 in
set_option maxHeartbeats 1600000 in
theorem specOftenPlan (s0 s1 : Value) (z : ArD) (who : Int) (C : Option Addr) (m d : Nat) (s : List Int) (w : World) (B : Nat) (hB : B ≤ w.heap.size) (ha : RAv w s0 s1 z.1 z.2) (hs : RI w C m d s) :
    Calls Try.prog 52 #[.agg #[s0, s1], .int .i64 who, .slice C m d] w fun e w' => ∃ v, e = .returned v ∧ OI 2 w' B v (oftPlanR z.1 z.2 who s) ∧ Below B w w' := by
  obtain ⟨A0, n0, c0, A1, n1, c1, rfl, rfl⟩ := ha.form
  have hr := ha.ri; have hrr := ha.rii
  have HL := Lib.hid hr.len
  have hba : Below w.heap.size w (w.alloc (.cells #[.slice A0 n0 c0, .slice A1 n1 c1] 42)) := below_alloc (Nat.le_refl _) (Below.refl _ _)
  have bx := Box.new w 42 #[.slice A0 n0 c0, .slice A1 n1 c1]
  have q0 := bx.d0; have q1 := bx.d1
  cases h : okA z.1 z.2 who s with
  | false =>
    have E := Lib.hid (show oftPlanR z.1 z.2 who s = [] from if_neg (by rw [h]; simp))
    go_enter Try.func52, Try.ntmps52
    go_wp2_with fail
    refine (l15Right _ _ _ _ _ _ _ _ _ _ _ _ _ _ _ (Nat.le_refl _) (hr.keep (keeps_below hba)) (hrr.keep (keeps_below hba)) (hs.keep (keeps_below hba))).mono ?_; rintro e w1 ⟨rfl, hb1'⟩
    have hb1 := below_then hb1' hba.size hba
    go_wp2
    go_ret
    exact ⟨_, rfl, by rw [E.out]; exact OI.empty (Nat.le_trans hB hb1.size), below_alloc hB (hb1.mono hB)⟩
  | true =>
    have HO := Lib.hid h
    obtain ⟨h1, h2, h3⟩ := okA_parts h
    have HF := Lib.hid (fineAr_of h1)
    have hn0 : n0 ≤ 256 := by have := HF.out.2.1; rw [HL.out] at this; omega
    have hm0 : 0 < n0 := by have := HF.out.1; rw [HL.out] at this; omega
    have HS3 := Lib.hid h3
    have HS2 := Lib.hid (setB_up h3 (m := 256) (by have := HF.out.2.1; omega))
    have E := Lib.hid (show oftPlanR z.1 z.2 who s = oftPlanL z.1 z.2 who s from if_pos h)
    have HQ := Lib.hid (oftL_set z.1 z.2 who s)
    have HQ2 := Lib.hid (setB_up (oftL_set z.1 z.2 who s) (m := 256) (by have := HF.out.2.1; omega))
    have HQA := Lib.hid (okA_oft h (oftL_set z.1 z.2 who s))
    have HMA := Lib.hid (okA_oft h (meetL_set h3 (oftL z.1 z.2 who s)))
    clear h1 h2 h3
    go_enter Try.func52, Try.ntmps52
    go_wp2_with fail
    refine (l15Right _ _ _ _ _ _ _ _ _ _ _ _ _ _ _ (Nat.le_refl _) (hr.keep (keeps_below hba)) (hrr.keep (keeps_below hba)) (hs.keep (keeps_below hba))).mono ?_; rintro e w1 ⟨rfl, hb1'⟩
    have hw := below_then hb1' hba.size hba
    replace bx := bx.below hb1' bx.lt
    clear q0 q1 hb1'
    have q0 := bx.d0; have q1 := bx.d1
    go_wp2_with fail
    refine (l15Often _ _ _ _ _ _ _ _ _ _ _ _ _ _ _ (Nat.le_refl _) (hr.keep (keeps_below hw)) (hrr.keep (keeps_below hw)) (hs.keep (keeps_below hw)) HO.out).mono ?_; rintro e w2 ⟨v2, rfl, ho2, hb2⟩
    have hw2 := below_then hb2 hw.size hw
    replace bx := bx.below hb2 bx.lt
    obtain ⟨A2, c2, rfl⟩ := ho2.form
    clear q0 q1
    have q0 := bx.d0; have q1 := bx.d1
    go_wp2_with fail
    refine (l16Marks n0 _ _ _ (oftL z.1 z.2 who s) _ _ (Nat.le_refl _) ho2.reads (by rw [← HL.out]; exact HQ.out) (by omega)).mono ?_; rintro e w3 ⟨v3, rfl, ho3, hb3⟩
    obtain ⟨A3, c3, rfl⟩ := ho3.form
    rw [mkM_len] at ho3 ⊢
    have hw3 := below_then hb3 hw2.size hw2
    replace bx := bx.below hb3 bx.lt
    replace ho2 := ho2.below hb3
    clear q0 q1
    have q0 := bx.d0; have q1 := bx.d1
    go_wp2_with fail
    go_region_held3 (fun w' => w'.cell? ⟨w.heap.size, 0, none⟩ = some (.slice A0 n0 c0) ∧ w'.cell? ⟨w.heap.size, 1, none⟩ = some (.slice A1 n1 c1))
      (refine ⟨?_, ?_⟩ <;> repeat (first | with_reducible assumption | with_reducible refine keepD ?_ | with_reducible refine keepA ?_))
      (first
        | (go_at_call 123
           refine (specMeetOf _ _ _ _ _ _ s (oftL z.1 z.2 who s) _ _ (Nat.le_refl _) (hs.keep (keeps_below hw3.drew)) (ho2.reads.keep (keeps_below (Below.drew (Below.refl w3.heap.size w3)))) HS2.out HQ2.out).mono ?_
           rintro e w4 ⟨v4, rfl, ho4, hb4⟩
           replace hb4 := below_undrew hb4
           obtain ⟨A4, c4, rfl⟩ := ho4.form
           have hw4 := below_then hb4 hw3.size hw3
           have bx4 := bx.below hb4 bx.lt
           have q20 := bx4.d0
           have q21 := bx4.d1)
        | (go_at_call 122
           refine (specPullIn _ _ _ _ _ _ _ _ _ _ _ _ _ _ _ _ _ _ _ (Nat.le_refl _) (hr.keep (keeps_below hw4)) (hrr.keep (keeps_below hw4)) ((ho2.below hb4).reads) ho4.reads HQA.out HMA.out).mono ?_
           rintro e w5 ⟨v5, rfl, ho5, hb5⟩
           have hw5 := below_then hb5 hw4.size hw4
           have bx5 := bx4.below hb5 bx4.lt
           have q30 := bx5.d0
           have q31 := bx5.d1))
    all_goals
      have HN := Lib.hid (show z.1.length = n0 from HL.out)
      have hll : (pullL z.1 z.2 who (oftL z.1 z.2 who s) (meetL s (oftL z.1 z.2 who s))).length = n0 := by rw [pullL_len, HN.out]
      obtain ⟨g5, c5, rfl⟩ := ho5.form2 (by rw [hll]; exact hm0)
      rw [hll]
      have HP0 := Lib.hid (show pullL z.1 z.2 who (oftL z.1 z.2 who s) (meetL s (oftL z.1 z.2 who s)) = fillUp (leastV z.1 z.2 who (mkM z.1.length (oftL z.1 z.2 who s)) (oftA (mkM z.1.length (oftL z.1 z.2 who s)) (ranksL z.1 z.2 who (oftL z.1 z.2 who s) s))) n0 (pullV z.1 z.2 who (mkM z.1.length (oftL z.1 z.2 who s)) (ranksL z.1 z.2 who (oftL z.1 z.2 who s) s)) 0 by
        rw [fillUp_zero]; unfold pullL; rw [ranks_meet, HN.out])
      have hbR := below_then hb5 hw4.size hw4
      have hoM := ((ho3.below hb4).below hb5)
      have q40 := bx5.d0; have q41 := bx5.d1
      have hg5 := ho5.lt g5 rfl
      obtain ⟨hg51, hg52⟩ := hg5
      have hs45 := hw4.size
      have HMN := Lib.hid (show mkM z.1.length (oftL z.1 z.2 who s) = mkM n0 (oftL z.1 z.2 who s) by rw [HN.out])
      clear q0 q1 q20 q21 q30 q31 bx4
      go_wp2_with fail
      refine (l15Least _ _ _ _ _ _ _ _ _ _ _ _ _ _ _ _ _ _ _ (Nat.le_refl _) (hr.keep (keeps_below hw5)) (hrr.keep (keeps_below hw5)) hoM.reads hoM.reads HF.out rfl rfl).mono ?_; rintro e w6 ⟨v6, rfl, ho6, hb6⟩
      have hw6 := below_then hb6 hw5.size hw5
      have hlp : (planL z.1 z.2 who (mkM n0 (oftL z.1 z.2 who s)) fun _ u => gb (mkM n0 (oftL z.1 z.2 who s)) u).length = n0 := by unfold planL; rw [fill_len, HN.out]
      obtain ⟨g6, c6, rfl⟩ := ho6.form2 (by rw [hlp]; exact hm0)
      rw [hlp] at ho6 ⊢
      have hg6 := ho6.lt g6 rfl
      obtain ⟨hg61, hg62⟩ := hg6
      have ho := ho5.below hb6
      rw [hll] at ho
      rw [HP0.out] at ho
      replace ho := ho.more (lo' := w.heap.size) hs45
      replace ho6 := ho6.more (lo' := w.heap.size) (by have := hw5.size; omega)
      have b56 := ho6.reads.cap; have b57 := ho6.reads.top
      have b58 := ho.reads.cap; have b59 := ho.reads.top
      have hgne : g6 ≠ g5 := by omega
      have hgw5 : w.heap.size ≤ g5 := by omega
      clear hb5 hb6 hbR hoM ho5 q40 q41 bx5 hw5 hw4 hw3 hw2 hw
      go_wp2
      go_loopw [11] (fun i wr => ∃ k : Nat, k ≤ n0 ∧ i = .int .i64 k ∧ OI 2 wr w.heap.size (.slice (some ⟨g5, 0, none⟩) n0 c5) (fillUp (leastV z.1 z.2 who (mkM z.1.length (oftL z.1 z.2 who s)) (oftA (mkM z.1.length (oftL z.1 z.2 who s)) (ranksL z.1 z.2 who (oftL z.1 z.2 who s) s))) n0 (pullV z.1 z.2 who (mkM z.1.length (oftL z.1 z.2 who s)) (ranksL z.1 z.2 who (oftL z.1 z.2 who s) s)) k) ∧ OI 2 wr w.heap.size (.slice (some ⟨g6, 0, none⟩) n0 c6) (planL z.1 z.2 who (mkM n0 (oftL z.1 z.2 who s)) fun _ u => gb (mkM n0 (oftL z.1 z.2 who s)) u) ∧ Below w.heap.size w wr) (fun i _ => n0 - (intOf i).toNat)
      case atStart => exact ⟨0, Nat.zero_le _, rfl, ho, ho6, hw6⟩
      case round =>
        clear ho ho6 hw6
        obtain ⟨k, hk, rfl, ho, ho6, hw⟩ := hrel
        by_cases hlt : k < n0
        · have hki : (k : Int) < (n0 : Int) := by omega
          have hk0 : (0 : Int) ≤ (k : Int) := by omega
          have hkl : k < z.1.length := by rw [HN.out]; exact hlt
          cases hh : hasL s (k : Int) with
          | true =>
            have HH := Lib.hid hh
            have HQ1 := Lib.hid (oftPlan_goal (n := z.2) (who := who) hkl hh)
            clear hh
            go_wp2_with fail
            refine (l16Has _ _ _ s _ _ (hs.keep (keeps_below hw))).mono ?_; rintro e w' ⟨rfl, q, rfl⟩
            rw [HH.out]
            have hbq := below_qt ⟨q, rfl⟩ (Below.refl wr.heap.size wr)
            have hwq := below_then hbq hw.size hw
            replace ho := ho.below hbq
            replace ho6 := ho6.below hbq
            clear hw hbq
            generalize wr.drewN q = wq at *
            have hcF := ho6.cellAt (i := k) (by rw [hlp]; exact hlt)
            have hcm := ho.cellAt (i := k) (by rw [fillUp_len]; exact hlt)
            have hfz := ho.hot (i := k) (by rw [fillUp_len])
            have Y := Lib.hid (fillUp_put (f := leastV z.1 z.2 who (mkM z.1.length (oftL z.1 z.2 who s)) (oftA (mkM z.1.length (oftL z.1 z.2 who s)) (ranksL z.1 z.2 who (oftL z.1 z.2 who s) s))) (g := pullV z.1 z.2 who (mkM z.1.length (oftL z.1 z.2 who s)) (ranksL z.1 z.2 who (oftL z.1 z.2 who s) s)) hlt)
            have HV := Lib.hid (show gi (planL z.1 z.2 who (mkM n0 (oftL z.1 z.2 who s)) fun _ u => gb (mkM n0 (oftL z.1 z.2 who s)) u) k = leastV z.1 z.2 who (mkM z.1.length (oftL z.1 z.2 who s)) (oftA (mkM z.1.length (oftL z.1 z.2 who s)) (ranksL z.1 z.2 who (oftL z.1 z.2 who s) s)) k by
              unfold planL; rw [fill_at hkl, HQ1.out, HMN.out])
            go_wp2
            exact ⟨⟨k + 1, by omega, by go_num, by rw [← Y.out, ← HV.out]; exact ho.set_ (by rw [fillUp_len]) _, ho6.off (by show g6 ≠ g5; exact hgne) _, below_set (by show w.heap.size ≤ g5; exact hgw5) hwq⟩, by simp [intOf]; omega⟩
          | false =>
            have HH := Lib.hid hh
            have HQ1 := Lib.hid (oftPlan_else (who := who) HF.out hkl hh)
            clear hh
            go_wp2_with fail
            refine (l16Has _ _ _ s _ _ (hs.keep (keeps_below hw))).mono ?_; rintro e w' ⟨rfl, q, rfl⟩
            rw [HH.out]
            have hbq := below_qt ⟨q, rfl⟩ (Below.refl wr.heap.size wr)
            have hwq := below_then hbq hw.size hw
            replace ho := ho.below hbq
            replace ho6 := ho6.below hbq
            clear hw hbq
            generalize wr.drewN q = wq at *
            have Y := Lib.hid (fillUp_same (n := n0) HQ1.out)
            go_wp2
            go_roundw
            case rel => exact ⟨k + 1, by omega, by go_num, by rw [Y.out]; exact ho, ho6, hwq⟩
            case measure => simp [intOf]; omega
        · obtain rfl : n0 = k := by omega
          have E3 := Lib.hid (show oftPlanR z.1 z.2 who s = fillUp (leastV z.1 z.2 who (mkM z.1.length (oftL z.1 z.2 who s)) (oftA (mkM z.1.length (oftL z.1 z.2 who s)) (ranksL z.1 z.2 who (oftL z.1 z.2 who s) s))) n0 (pullV z.1 z.2 who (mkM z.1.length (oftL z.1 z.2 who s)) (ranksL z.1 z.2 who (oftL z.1 z.2 who s) s)) n0 by
            rw [E.out, fillUp_full]; unfold oftPlanL planL; rw [HN.out])
          go_wp2
          go_ret
          exact ⟨_, rfl, by rw [E3.out]; exact ho.more hB, hw.mono hB⟩
end Go.Proofs.Ytfjhkjikfjpnpaa
