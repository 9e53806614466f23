/- The attractor's plan: pullIn, PullIn; ReachPlan. -/
import Derived.Test.YtefjhkcafcchlaaAttr
import Derived.Test.YtefjhkcafcchlaaPlan2
namespace Go.Proofs.Ytefjhkcafcchlaa
open Go.RowKit

def pullA (ins : List Bool) (rk : List Int) (v u : Nat) : Bool := gb ins u && (gi rk u == gi rk v - 1)
def pullV (o : List Int) (n : List (List Int)) (who : Int) (ins : List Bool) (rk : List Int) (v : Nat) : Int := if 1 ≤ gi rk v ∧ gi o v = who then firstU (pullA ins rk v) (gl n v) (gl n v).length else -1
noncomputable def pullL (o : List Int) (n : List (List Int)) (who : Int) (inn goal : List Int) : List Int := fill (pullV o n who (mkM o.length inn) (ranksL o n who inn goal)) o.length
noncomputable def pullR (o : List Int) (n : List (List Int)) (who : Int) (inn goal : List Int) : List Int := if (okA o n who inn && okA o n who goal) = true then pullL o n who inn goal else []
theorem pullR_no {o : List Int} {n : List (List Int)} {who : Int} {inn goal : List Int} (h : (okA o n who inn && okA o n who goal) = false) : pullR o n who inn goal = [] := by unfold pullR; rw [if_neg (by rw [h]; decide)]
theorem pullR_yes {o : List Int} {n : List (List Int)} {who : Int} {inn goal : List Int} (h1 : okA o n who inn = true) (h2 : okA o n who goal = true) : pullR o n who inn goal = pullL o n who inn goal := if_pos (by rw [h1, h2]; rfl)
noncomputable def reachPlanR (o : List Int) (n : List (List Int)) (who : Int) (goal : List Int) : List Int := if okA o n who goal = true then pullL o n who (allL o.length) goal else []
theorem pullL_len (o : List Int) (n : List (List Int)) (who : Int) (inn goal : List Int) : (pullL o n who inn goal).length = o.length := fill_len _ _
theorem reachPlanR_len (z : ArD) (who : Int) (s : List Int) : (reachPlanR z.1 z.2 who s).length ≤ 256 := by
  unfold reachPlanR
  split
  · rename_i h
    have := (fineAr_of (okA_parts h).1).2.1
    rw [pullL_len]; exact this
  · simp
/-- what has a rank is in the set -/
theorem rnks_in {o : List Int} {n : List (List Int)} {who : Int} {inn goal : List Int} {m : Nat} : ∀ {k u : Nat}, u < m → 0 ≤ gi (rnks o n who inn goal m k) u → gb (mkM m inn) u = true
  | 0, u, hu, h => by
    rw [rnks] at h; unfold rnk0 at h
    rw [fill_at hu] at h
    split at h
    · split at h
      · assumption
      · omega
    · omega
  | k + 1, u, hu, h => by
    rw [rnks] at h; unfold rnkS at h
    rw [fill_at hu] at h
    split at h
    · rename_i h1
      rw [mkM_at hu]; exact h1
    · exact rnks_in hu h
theorem ranksL_in {o : List Int} {n : List (List Int)} {who : Int} {inn goal : List Int} {u : Nat} (hu : u < o.length) (h : 0 ≤ gi (ranksL o n who inn goal) u) : gb (mkM o.length inn) u = true := by
  obtain ⟨k, hk, _⟩ := ranksL_is o n who inn goal
  rw [hk] at h
  exact rnks_in hu h
theorem rnks_done (o : List Int) (n : List (List Int)) (who : Int) (inn goal : List Int) (m : Nat) : ∀ t, t + negs (rnks o n who inn goal m t) ≤ m ∨ rnkEnd o n who inn (rnks o n who inn goal m t) m
  | 0 => .inl (by have := rnk0_negs o n who inn goal m; omega)
  | t + 1 => by
    by_cases e : rnkEnd o n who inn (rnks o n who inn goal m t) m
    · right
      rw [rnks, rnkS_end (rnks_len _ _ _ _ _ _ _) e]
      exact e
    · left
      have h := (rnks_done o n who inn goal m t).resolve_right e
      have hx : ∃ v, v < m ∧ hasL inn (v : Int) = true ∧ rnkC o n who (mkM m inn) (rnks o n who inn goal m t) v = true := by
        refine Classical.byContradiction fun hne => e fun v hv hi => ?_
        cases hc : rnkC o n who (mkM m inn) (rnks o n who inn goal m t) v with
        | false => rfl
        | true => exact absurd ⟨v, hv, hi, hc⟩ hne
      obtain ⟨v, hv, hi, hc⟩ := hx
      have := rnkS_negs (k := t + 1) (rnks_len o n who inn goal m t) hv hi hc
      rw [rnks]
      omega
theorem ranksL_eq (o : List Int) (n : List (List Int)) (who : Int) (inn goal : List Int) : ranksL o n who inn goal = rnks o n who inn goal o.length o.length := by
  have h : rnkEnd o n who inn (rnks o n who inn goal o.length o.length) o.length := by
    rcases rnks_done o n who inn goal o.length o.length with h | h
    · exact rnkEnd_full (rnks_len _ _ _ _ _ _ _) (by omega)
    · exact h
  exact ((show isRnk o n who inn goal o.length _ from ⟨_, rfl, h⟩).is).symm
theorem ranksL_bound (o : List Int) (n : List (List Int)) (who : Int) (inn goal : List Int) (u : Nat) : -1 ≤ gi (ranksL o n who inn goal) u := by
  obtain ⟨k, hk, _⟩ := ranksL_is o n who inn goal
  rcases Nat.lt_or_ge u o.length with h | h
  · rw [hk]; exact (rnks_top (o := o) (n := n) (who := who) (inn := inn) (goal := goal) k u h).2
  · rw [gi_out (by rw [ranksL_len]; exact h)]; omega


set_option maxRecDepth 100000 in
set_option maxHeartbeats 1600000 in
theorem pullIn (A0 A1 C1 C2 : Option Addr) (n0 c0 n1 c1 k1 d1 k2 d2 : Nat) (o : List Int) (n : List (List Int)) (who : Int) (inn goal : List Int) (w : World) (B : Nat) (hB : B ≤ w.heap.size) (ha : RI w A0 n0 c0 o) (hb : RII w A1 n1 c1 n) (hi : RI w C1 k1 d1 inn) (hg : RI w C2 k2 d2 goal) (hf : fineAr o n) (hsi : setB inn o.length = true) (hsg : setB goal o.length = true) :
    Calls Try.prog 85 #[.agg #[.slice A0 n0 c0, .slice A1 n1 c1], .int .i64 who, .slice C1 k1 d1, .slice C2 k2 d2] w fun e w' => ∃ v, e = .returned v ∧ OI 2 w' B v (pullL o n who inn goal) ∧ Below B w w' := by
  have b1 := ha.cap; have b2 := ha.top; have b3 := hb.cap; have b4 := hb.top
  have HL := Lib.hid ha.len; have HM := Lib.hid hb.len
  have hn0 : n0 ≤ 256 := by have := hf.2.1; rw [HL.out] at this; omega
  have hm0 : 0 < n0 := by have := hf.1; rw [HL.out] at this; omega
  have H01 := Lib.hid (show n1 = n0 by rw [← HM.out, hf.2.2.1, HL.out])
  have HSI := Lib.hid (show setB inn (n0 : Int) = true by rw [← HL.out]; exact hsi)
  have HF := Lib.hid hf
  have hll : (ranksL o n who inn goal).length = n0 := by rw [ranksL_len, HL.out]
  have HRB := Lib.hid (fun u => ranksL_bound o n who inn goal u)
  have E := Lib.hid (show pullL o n who inn goal = fill (pullV o n who (mkM n0 inn) (ranksL o n who inn goal)) n0 by unfold pullL; rw [HL.out])
  have hba : Below w.heap.size w (w.alloc (.cells #[.slice A0 n0 c0, .slice A1 n1 c1] 30)) := below_alloc (Nat.le_refl _) (Below.refl _ _)
  have bx := Box.new w 30 #[.slice A0 n0 c0, .slice A1 n1 c1]
  have q0 := bx.d0; have q1 := bx.d1
  go_enter Try.func85, Try.ntmps85
  go_wp2_with fail
  clear q0 q1
  refine (ranksIn _ _ _ _ _ _ _ _ _ _ _ _ _ _ _ _ _ _ _ (Nat.le_refl _) (ha.keep (keeps_below hba)) (hb.keep (keeps_below hba)) (hi.keep (keeps_below hba)) (hg.keep (keeps_below hba)) hf hsi hsg).mono ?_; rintro e w1 ⟨v1, rfl, hr, hb1⟩
  have hw1 := below_then hb1 hba.size hba
  replace bx := bx.below hb1 bx.lt
  obtain ⟨gR, cR, rfl⟩ := hr.form2 (by omega)
  rw [hll] at hr ⊢
  have hgR : gR < w1.heap.size := (hr.lt gR rfl).2
  have hz01 := bx.lt
  have HRT := Lib.hid (show ∀ u, gi (ranksL o n who inn goal) u ≤ 256 from fun u => by
    rw [ranksL_eq]; exact rnks_all (by rw [HL.out]; exact hn0) u)
  have HLL := Lib.hid hll
  generalize ranksL o n who inn goal = L at *
  clear hll hba hb1 hf hsi hsg
  have q0 := bx.d0; have q1 := bx.d1
  go_wp2_with fail
  clear q0 q1
  refine (markOf _ _ _ _ _ _ _ _ _ inn _ _ (Nat.le_refl _) (hi.keep (keeps_below hw1)) HSI.out (by omega)).mono ?_; rintro e w2 ⟨v2, rfl, hs, hb2⟩
  have hw2 := below_then hb2 hw1.size hw1
  replace bx := bx.below hb2 bx.lt
  replace hr := hr.below hb2
  obtain ⟨gS, cS, rfl⟩ := hs.form2 (by rw [mkM_len]; exact hm0)
  rw [mkM_len] at hs ⊢
  have hgS : gS < w2.heap.size := (hs.lt gS rfl).2
  have hz12 := hb2.size
  clear hb2
  have q0 := bx.d0; have q1 := bx.d1
  go_wp2_with fail
  clear q0 q1
  refine (noPlan _ _ _ _ _ _ _ _ (Nat.le_refl _) (by omega)).mono ?_; rintro e w3 ⟨v3, rfl, ho, hb3⟩
  have hw3 := below_then hb3 hw2.size hw2
  replace bx := bx.below hb3 bx.lt
  replace hr := hr.below hb3
  replace hs := hs.below hb3
  have hneg : (negL n0).length = n0 := fill_len _ _
  obtain ⟨g8, c8, rfl⟩ := ho.form2 (by rw [hneg]; exact hm0)
  rw [hneg] at ho ⊢
  have hg8 : w2.heap.size ≤ g8 ∧ g8 < w3.heap.size := ho.lt g8 rfl
  obtain ⟨hg81, hg82⟩ := hg8
  have hz1 := hw1.size; have hz2 := hw2.size; have hz0 := bx.lt
  have bc := hr.reads.cap; have bt := hr.reads.top
  have bs1 := hs.reads.cap; have bs2 := hs.reads.top
  have hbase : w.heap.size < g8 := by omega
  replace ho := ho.more (lo' := w.heap.size) (by omega)
  replace hr := hr.more (lo' := w.heap.size) (by first | omega | simp)
  replace hs := hs.more (lo' := w.heap.size) (by omega)
  clear hb3 hneg
  go_wp2
  go_loopw [28] (fun i wr => ∃ k : Nat, k ≤ n0 ∧ i = .int .i64 k ∧ OI 2 wr w.heap.size (.slice (some ⟨g8, 0, none⟩) n0 c8) (fillUp (pullV o n who (mkM n0 inn) L) n0 (fun _ => -1) k) ∧ OI 2 wr w.heap.size (.slice (some ⟨gR, 0, none⟩) n0 cR) L ∧ OB 4 wr w.heap.size (.slice (some ⟨gS, 0, none⟩) n0 cS) (mkM n0 inn) ∧ Box wr w.heap.size 30 #[.slice A0 n0 c0, .slice A1 n1 c1] ∧ Below w.heap.size w wr) (fun i _ => n0 - (intOf i).toNat)
  case atStart => exact ⟨0, Nat.zero_le _, rfl, by rw [fillUp_zero]; exact ho, hr, hs, bx, hw3⟩
  case round =>
    clear ho hr hs bx hw3
    obtain ⟨wo, rfl⟩ : ∃ wo : World, wo = wr := ⟨_, rfl⟩
    obtain ⟨k, hk, rfl, ho, hr, hs, bx, hw⟩ := hrel
    by_cases hlt0 : k < n0
    · have hlt : k < n1 := by have := H01.out; omega
      obtain ⟨ba, oa, rfl, hcA⟩ := (ha.keep (keeps_below hw)).at_ hlt0
      obtain ⟨bn, on, An, nn, cn, rfl, hcN, rn⟩ := (hb.keep (keeps_below hw)).at_ hlt
      have hcL := hr.cellAt (i := k) (by rw [HLL.out]; exact hlt0)
      obtain ⟨_, ⟨hd1, hd2⟩, hset⟩ := HF.out.2.2.2 k (by rw [HL.out]; exact hlt0)
      rw [HL.out] at hset
      rw [rn.len] at hd1 hd2
      have HN := Lib.hid rn.len
      have HSET := Lib.hid hset; clear hset
      have bn1 := rn.cap; have bn2 := rn.top
      have hki : (k : Int) < (n0 : Int) := by omega
      have hki1 : (k : Int) < (n1 : Int) := by omega
      have hk0 : (0 : Int) ≤ (k : Int) := by omega
      have q0 := bx.d0; have q1 := bx.d1
      by_cases hcond : 1 ≤ gi L k ∧ gi o k = who
      · have EV := Lib.hid (show pullV o n who (mkM n0 inn) L k = firstU (pullA (mkM n0 inn) L k) (gl n k) nn by unfold pullV; rw [if_pos hcond, HN.out])
        obtain ⟨hge, hwh⟩ := hcond
        have hne : (gi o k != who) = false := by simp [hwh]
        have hdn : decide (gi L k < 1) = false := decide_eq_false (by omega)
        have hL256 : gi L k ≤ 9223372036854775807 := by have := HRT.out k; omega
        have e1 : IntKind.i64.wrap (gi L k - 1) = gi L k - 1 := IntWalk.i64_in _ (by omega)
        clear hwh
        go_wp2
        go_loopw [50] (fun i wr => ∃ j : Nat, j ≤ nn ∧ i = .int .i64 j ∧ (∀ t, t < j → pullA (mkM n0 inn) L k (gi (gl n k) t).toNat = false) ∧ wr = wo) (fun i _ => nn - (intOf i).toNat)
        case atStart => exact ⟨0, Nat.zero_le _, rfl, by omega, rfl⟩
        case round =>
          obtain ⟨j, hj, rfl, hall, rfl⟩ := hrel
          have HA := Lib.hid hall
          clear hall
          by_cases hjl : j < nn
          · obtain ⟨u, hu, hun⟩ := set_nat HSET.out (show j < (gl n k).length by rw [HN.out]; exact hjl)
            obtain ⟨bu, ou, rfl, hcU⟩ := rn.at_ hjl
            rw [hu] at hcU
            have HU := Lib.hid hu
            clear hu
            have hcs := hs.atx (i := u) (by rw [mkM_len]; exact hun)
            have hcu := hr.cellAt (i := u) (by rw [HLL.out]; exact hun)
            have hui : (u : Int) < (n0 : Int) := by omega
            have hu0 : (0 : Int) ≤ (u : Int) := by omega
            have hji : (j : Int) < (nn : Int) := by omega
            cases hal : pullA (mkM n0 inn) L k u with
            | true =>
              have hal' := hal
              unfold pullA at hal'
              rw [Bool.and_eq_true] at hal'
              obtain ⟨hg1, hg2⟩ := hal'
              rw [hg1] at hcs
              have X := Lib.hid (EV.out.trans (firstU_hit HU.out hal HA.out hjl))
              have Y := Lib.hid (fillUp_put (f := pullV o n who (mkM n0 inn) L) (g := fun _ => -1) hlt0)
              have hcm := ho.cellAt (i := k) (by rw [fillUp_len]; exact hlt0)
              have hfz := ho.hot (i := k) (by rw [fillUp_len])
              clear hal hg1
              go_wp2
              exact ⟨⟨k + 1, by omega, by go_num, by rw [← Y.out, X.out]; exact ho.set_ (by rw [fillUp_len]) _, hr.off (by show gR ≠ g8; omega) _, hs.off (by show gS ≠ g8; omega) _, bx.far (by show w.heap.size ≠ g8; omega) _, below_set (by show w.heap.size ≤ g8; omega) hw⟩, by simp [intOf]; omega⟩
            | false =>
              have HN2 := Lib.hid (show pullA (mkM n0 inn) L k (gi (gl n k) j).toNat = false by rw [HU.out]; exact hal)
              cases hg1 : gb (mkM n0 inn) u with
              | false =>
                rw [hg1] at hcs
                clear hg1 hal
                go_wp2
                go_roundw
                case rel => exact ⟨j + 1, by omega, by go_num, all_succ HA.out HN2.out, by first | rfl | trivial⟩
                case measure => simp [intOf]; omega
              | true =>
                rw [hg1] at hcs
                have hg2 : (gi L u == gi L k - 1) = false := by unfold pullA at hal; rw [hg1, Bool.true_and] at hal; exact hal
                clear hg1 hal
                go_wp2
                go_roundw
                case rel => exact ⟨j + 1, by omega, by go_num, all_succ HA.out HN2.out, by first | rfl | trivial⟩
                case measure => simp [intOf]; omega
          · obtain rfl : j = nn := by omega
            have X := Lib.hid (EV.out.trans (firstU_none HA.out))
            have Y := Lib.hid (fillUp_same (f := pullV o n who (mkM n0 inn) L) (g := fun _ => -1) (n := n0) (k := k) X.out)
            go_wp2
            exact ⟨⟨k + 1, by omega, by go_num, by rw [Y.out]; exact ho, hr, hs, bx, hw⟩, by simp [intOf]; omega⟩
      · have X := Lib.hid (show pullV o n who (mkM n0 inn) L k = -1 from if_neg hcond)
        have Y := Lib.hid (fillUp_same (f := pullV o n who (mkM n0 inn) L) (g := fun _ => -1) (n := n0) (k := k) X.out)
        by_cases hge : 1 ≤ gi L k
        · have hdn : decide (gi L k < 1) = false := decide_eq_false (by omega)
          have hne : (gi o k != who) = true := by
            have : ¬ gi o k = who := fun h => hcond ⟨hge, h⟩
            simpa using this
          clear hcond
          go_wp2
          exact ⟨⟨k + 1, by omega, by go_num, by rw [Y.out]; exact ho, hr, hs, bx, hw⟩, by simp [intOf]; omega⟩
        · have hdn : decide (gi L k < 1) = true := decide_eq_true (by omega)
          clear hcond
          go_wp2
          exact ⟨⟨k + 1, by omega, by go_num, by rw [Y.out]; exact ho, hr, hs, bx, hw⟩, by simp [intOf]; omega⟩
    · obtain rfl : k = n0 := by omega
      rw [fillUp_full] at ho
      go_wp2
      go_ret
      exact ⟨_, rfl, by rw [E.out]; exact ho.more (by omega), hw.mono hB⟩

end Go.Proofs.Ytefjhkcafcchlaa
