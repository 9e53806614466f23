/- Ranks: spec.l3Ranks. -/
import Derived.Test.YtfjhkjikfjpnpaaRanks3
namespace Go.Proofs.Ytfjhkjikfjpnpaa
open Go.RowKit


theorem fill_eq {f g : Nat → Int} {n : Nat} (h : ∀ v, v < n → f v = g v) : fill f n = fill g n := gi_ext (by rw [fill_len, fill_len]) fun j hj => by
  rw [fill_len] at hj
  rw [fill_at hj, fill_at hj, h j hj]
theorem goal_fill {goal : List Int} {ins : List Bool} {m : Nat} : fill (fun v => if hasL goal (v : Int) = true then goalF goal ins v else -1) m = rnk0 ins goal m := rfl

set_option maxRecDepth 100000 in
set_option maxHeartbeats 3200000 in
theorem l3Ranks (A0 A1 C1 C2 : Option Addr) (n0 c0 n1 c1 k1 d1 k2 d2 : Nat) (o : List Int) (n : List (List Int)) (who : Int) (inn goal : List Int) (w : World) (B : Nat) (hB : B ≤ w.heap.size) (ha : RI w A0 n0 c0 o) (hb : RII w A1 n1 c1 n) (hi : RI w C1 k1 d1 inn) (hg : RI w C2 k2 d2 goal) (hf : fineAr o n) (hsi : setB inn o.length = true) (hsg : setB goal o.length = true) :
    Calls Try.prog 176 #[.agg #[.slice A0 n0 c0, .slice A1 n1 c1], .int .i64 who, .slice C1 k1 d1, .slice C2 k2 d2] w fun e w' => ∃ v, e = .returned v ∧ OI 2 w' B v (ranksL o n who inn goal) ∧ Below B w w' := by
  have ba1 := ha.cap; have ba2 := ha.top
  have HL := Lib.hid ha.len; have HK1 := Lib.hid hi.len; have HK2 := Lib.hid hg.len
  have hm0 : 0 < n0 := by have := hf.1; rw [HL.out] at this; omega
  have hm1 : n0 ≤ 256 := by have := hf.2.1; rw [HL.out] at this; omega
  have HSI := Lib.hid (show setB inn (n0 : Int) = true by rw [← HL.out]; exact hsi)
  have HSG := Lib.hid (show setB goal (n0 : Int) = true by rw [← HL.out]; exact hsg)
  have hkl1 : k1 ≤ 256 := by have := set_len HSI.out (by omega); rw [HK1.out] at this; omega
  have hkl2 : k2 ≤ 256 := by have := set_len HSG.out (by omega); rw [HK2.out] at this; omega
  have bi1 := hi.cap; have bi2 := hi.top; have bg1 := hg.cap; have bg2 := hg.top
  have HS := Lib.hid (show ranksL o n who inn goal = rankE o n who inn goal n0 by unfold ranksL; rw [HL.out])
  have HF := Lib.hid hf
  have hba : Below w.heap.size w (w.alloc (.cells #[.slice A0 n0 c0, .slice A1 n1 c1] 42)) := below_alloc (Nat.le_refl _) (Below.refl _ _)
  have bx := Box.new w 42 #[.slice A0 n0 c0, .slice A1 n1 c1]
  have q0 := bx.d0; have q1 := bx.d1
  clear hf hsi hsg
  go_enter Try.func176, Try.ntmps176
  go_wp2_with fail
  clear q0 q1
  refine (l1Marks n0 _ _ _ inn _ _ (Nat.le_refl _) (hi.keep (keeps_below hba)) HSI.out (by omega)).mono ?_; rintro e w1 ⟨v1, rfl, hs, hb1⟩
  obtain ⟨gS, cS, rfl⟩ := hs.form2 (by rw [mkM_len]; exact hm0)
  rw [mkM_len] at hs ⊢
  replace bx := bx.below hb1 bx.lt
  have hw := below_then hb1 hba.size hba
  have hz1 : w.heap.size < w1.heap.size := bx.lt
  have hem := OI.empty (E := 2) (w := w1) (B := w1.heap.size) (Nat.le_refl _)
  have hbe : Below w1.heap.size w1 (w1.alloc (.cells #[] 2)) := below_alloc (Nat.le_refl _) (Below.refl _ _)
  clear hb1 hba
  go_wp2
  go_loopw [11, 12] (fun x i wr => ∃ k : Nat, k ≤ n0 ∧ i = .int .i64 k ∧ OI 2 wr w1.heap.size x (fill (fun _ => -1) k) ∧ Below w1.heap.size w1 wr) (fun _ i _ => n0 - (intOf i).toNat)
  case atStart => exact ⟨0, Nat.zero_le _, rfl, hem, hbe⟩
  case round =>
    clear hem hbe
    obtain ⟨k, hk, rfl, hx, hbr⟩ := hrel
    have hlen := fill_len (fun _ => (-1 : Int)) k
    have hle : (fill (fun _ => (-1 : Int)) k).length ≤ 256 := by omega
    have HX := Lib.hid (fill_succ (fun _ => (-1 : Int)) k)
    have hsz := hbr.size
    clear hlen
    by_cases hlt : k < n0
    · have hki : (k : Int) < (n0 : Int) := by omega
      go_wp2_with (at_builtin; refine wpList_pushI rfl (.tmp 29) (.tmp 30) rfl _ _ _ (fill (fun _ => -1) k) rfl hx _ rfl (by omega) hsz ?_; intro v5 w5 ho5 hb5 hc5 hat5)
      go_roundw
      case rel => exact ⟨k + 1, by omega, by go_num, by rw [HX.out]; exact ho5, hbr.trans hb5⟩
      case measure => simp [intOf]; omega
    · obtain rfl : k = n0 := by omega
      obtain ⟨g8, c8, rfl⟩ := hx.form2 (by rw [fill_len]; exact hm0)
      rw [fill_len] at hx ⊢
      have hg8 : w1.heap.size ≤ g8 := (hx.lt g8 rfl).1
      rw [← hasFill_zero (goalF goal (mkM k inn)) (fun _ => -1) goal] at hx
      go_wp2
      go_loopw [13] (fun i wr => ∃ j : Nat, j ≤ k2 ∧ i = .int .i64 j ∧ OI 2 wr w1.heap.size (.slice (some ⟨g8, 0, none⟩) k c8) (hasFill (goalF goal (mkM k inn)) (fun _ => -1) goal j k) ∧ Below w1.heap.size w1 wr) (fun i _ => k2 - (intOf i).toNat)
      case atStart => exact ⟨0, Nat.zero_le _, rfl, hx, hbr⟩
      case round =>
        clear hx hbr hlt hk hsz hle
        obtain ⟨j, hj, rfl, ho, hbr⟩ := hrel
        have hwr := below_then hbr hw.size hw
        by_cases hjl : j < k2
        · obtain ⟨u, hu, hun⟩ := set_nat HSG.out (show j < goal.length by rw [HK2.out]; exact hjl)
          obtain ⟨bb, off, rfl, hc⟩ := (hg.keep (keeps_below hwr)).at_ hjl
          have HU := Lib.hid hu
          rw [hu] at hc
          clear hu
          have hcs := (hs.below hbr).atx (i := u) (by rw [mkM_len]; exact hun)
          have hco := ho.cellAt (i := u) (by rw [hasFill_len]; exact hun)
          have hfo := ho.hot (i := u) (by rw [hasFill_len])
          have hui : (u : Int) < (k : Int) := by omega
          have hu0 : (0 : Int) ≤ (u : Int) := by omega
          have hji : (j : Int) < (k2 : Int) := by omega
          cases hgb : gb (mkM k inn) u with
          | false =>
            rw [hgb] at hcs
            have HX2 := Lib.hid (hasFill_skip (f := goalF goal (mkM k inn)) (g := fun _ => -1) (n := k) (show j < goal.length by rw [HK2.out]; exact hjl) HU.out (by unfold goalF; rw [hgb]; rfl))
            clear hgb
            go_wp2
            go_roundw
            case rel => exact ⟨j + 1, by omega, by go_num, by rw [HX2.out]; exact ho, hbr⟩
            case measure => simp [intOf]; omega
          | true =>
            rw [hgb] at hcs
            have HX2 := Lib.hid (hasFill_step (f := goalF goal (mkM k inn)) (g := fun _ => -1) (n := k) (show j < goal.length by rw [HK2.out]; exact hjl) HU.out hun)
            have HV := Lib.hid (show goalF goal (mkM k inn) u = 0 by unfold goalF; rw [hgb]; rfl)
            clear hgb
            go_wp2
            go_roundw
            case rel => exact ⟨j + 1, by omega, by go_num, by rw [← HX2.out, HV.out]; exact ho.set_ (by rw [hasFill_len]) 0, below_set (by show w1.heap.size ≤ g8; omega) hbr⟩
            case measure => simp [intOf]; omega
        · obtain rfl : j = k2 := by omega
          replace ho : OI 2 wr w1.heap.size (.slice (some ⟨g8, 0, none⟩) k c8) (rnks o n who inn goal k 0) := by
            rw [hasFill_all (by rw [HK2.out]; omega)] at ho
            exact ho
          go_wp2
          go_loopw [11, 14] (fun x i wr => ∃ (t : Nat) (R : List Int), i = .int .i64 ((t + 1 : Nat) : Int) ∧ t ≤ k ∧ R = rnks o n who inn goal k t ∧ t + negs R ≤ k ∧ OI 2 wr w1.heap.size x R ∧ Below w1.heap.size w1 wr) (fun _ i _ => k + 1 - (intOf i).toNat)
          case atStart => exact ⟨0, _, rfl, Nat.zero_le _, rfl, by have := rnk0_negs o n who inn goal k; omega, ho, hbr⟩
          case round =>
            clear ho hbr hwr hjl hj
            obtain ⟨t, R, rfl, ht, hRt, hneg, ho, hbr⟩ := hrel
            obtain ⟨wl, rfl⟩ : ∃ wl : World, wl = wr := ⟨_, rfl⟩
            have hRl : R.length = k := by rw [hRt, rnks_len]
            have HRT := Lib.hid hRt; have HNEG := Lib.hid hneg; have HRL := Lib.hid hRl
            have HTOP := Lib.hid (show ∀ u, gi R u ≤ 256 from fun u => by rw [hRt]; exact rnks_all (by omega) u)
            clear hRt hneg
            have hwr := below_then hbr hw.size hw
            obtain ⟨gR, cR, rfl⟩ := ho.form2 (by omega)
            rw [hRl] at ho ⊢
            clear hRl
            have hgR : w1.heap.size ≤ gR ∧ gR < wl.heap.size := ho.lt gR rfl
            obtain ⟨hgR1, hgR2⟩ := hgR
            by_cases htk : t < k
            · have hti : (((t + 1 : Nat) : Int)) ≤ (k : Int) := by omega
              have hco := l1Copy (some ⟨gR, 0, none⟩) k cR R wl _ (Nat.le_refl _) ho.reads (by omega)
              go_wp2_with fail
              refine hco.mono ?_; clear hco; rintro e w3 ⟨v3, rfl, hm, hb3⟩
              obtain ⟨gM, cM, rfl⟩ := hm.form2 (by rw [HRL.out]; exact hm0)
              rw [HRL.out] at hm ⊢
              have hgM : wl.heap.size ≤ gM := (hm.lt gM rfl).1
              have HLF := Lib.hid (list_fill HRL.out)
              rw [HLF.out, ← hasFill_zero (fun v => if rnkC o n who (mkM k inn) R v = true then ((t + 1 : Nat) : Int) else gi R v) (gi R) inn] at hm
              go_wp2
              go_loopw [16] (fun i wr => ∃ j : Nat, j ≤ k1 ∧ i = .int .i64 j ∧ OI 2 wr wl.heap.size (.slice (some ⟨gM, 0, none⟩) k cM) (hasFill (fun v => if rnkC o n who (mkM k inn) R v = true then ((t + 1 : Nat) : Int) else gi R v) (gi R) inn j k) ∧ Below wl.heap.size wl wr) (fun i _ => k1 - (intOf i).toNat)
              case atStart => exact ⟨0, Nat.zero_le _, rfl, hm, hb3⟩
              case round =>
                clear hm hb3
                obtain ⟨j, hj, rfl, hm, hb4⟩ := hrel
                have hbw := below_then hb4 hbr.size hbr
                have hw4 := below_then hbw hw.size hw
                have ho4 := ho.below hb4
                by_cases hjl : j < k1
                · obtain ⟨u, hu, hun⟩ := set_nat HSI.out (show j < inn.length by rw [HK1.out]; exact hjl)
                  obtain ⟨bb, off, rfl, hc⟩ := (hi.keep (keeps_below hw4)).at_ hjl
                  have HU := Lib.hid hu
                  have HIN := Lib.hid (hasL_gi (show j < inn.length by rw [HK1.out]; exact hjl) hu)
                  rw [hu] at hc
                  clear hu
                  have hs4 := hs.below hbw
                  have bx4 := bx.below hbw bx.lt
                  have hcR := ho4.cellAt (i := u) (by rw [HRL.out]; exact hun)
                  have hui : (u : Int) < (k : Int) := by omega
                  have hu0 : (0 : Int) ≤ (u : Int) := by omega
                  have hji : (j : Int) < (k1 : Int) := by omega
                  have hj0 : (0 : Int) ≤ (j : Int) := by omega
                  have q0 := bx4.d0; have q1 := bx4.d1
                  by_cases hneg : gi R u < 0
                  · have hdn : decide (gi R u < 0) = true := decide_eq_true hneg
                    have HEQ := Lib.hid (show (rankV o n who (mkM k inn) R u == (t : Int) + 1) = pulledB o n who (mkM k inn) R u by
                      rw [HRT.out] at hneg ⊢
                      have hset := (HF.out.2.2.2 u (by rw [HL.out]; exact hun)).2.2
                      rw [HL.out] at hset
                      have h9 := rank_eq hset hun HIN.out hneg
                      rw [show ((t + 1 : Nat) : Int) = (t : Int) + 1 by omega] at h9
                      exact h9)
                    have hra := ha.keep (keeps_below hw4)
                    have hrb := hb.keep (keeps_below hw4)
                    have hsr := hs4.reads
                    have hor := ho4.reads
                    have HRV := Lib.hid (show rnkC o n who (mkM k inn) R u = pulledB o n who (mkM k inn) R u by unfold rnkC; rw [hdn]; rfl)
                    go_wp2_with fail
                    go_region_held3 (fun w' => w'.cell? ⟨w.heap.size, 0, none⟩ = some (.slice A0 k c0) ∧ w'.cell? ⟨w.heap.size, 1, none⟩ = some (.slice A1 n1 c1) ∧ w'.cell? ⟨bb, off + j, none⟩ = some (.int .i64 (u : Int)) ∧ w'.cell? ⟨gR, u, none⟩ = some (.int .i64 (gi R u)))
                      (refine ⟨?_, ?_, ?_, ?_⟩ <;> repeat (first | with_reducible assumption | with_reducible refine keepD ?_ | with_reducible refine keepA ?_))
                      (first
                        | (go_at_call 197
                           refine (l3Rank A0 A1 _ _ k c0 n1 c1 _ _ o n who u (mkM k inn) R _ _ (Nat.le_refl _) (by exact hra) (by exact hrb) (by exact hsr) (by exact hor) HF.out hun HTOP.out).mono ?_
                           rintro e w5 ⟨rfl, hb5⟩
                           replace hb5 := below_undrew hb5
                           have K := keeps_below hb5
                           have q50 := K _ _ q0
                           have q51 := K _ _ q1
                           have q52 := K _ _ hc
                           have q53 := K _ _ hcR
                           clear K))
                    all_goals
                      have hb6 := below_then hb5 hb4.size hb4
                      have hm5 := hm.below hb5
                      have hcm := hm5.cellAt (i := u) (by rw [hasFill_len]; exact hun)
                      have hfm := hm5.hot (i := u) (by rw [hasFill_len])
                      clear q0 q1 hc hcR
                      generalize hrv : (rankV o n who (mkM k inn) R u == (t : Int) + 1) = bb2 at *
                      clear hrv
                      cases bb2 with
                      | true =>
                        have HX2 := Lib.hid (hasFill_step (f := fun v => if rnkC o n who (mkM k inn) R v = true then ((t + 1 : Nat) : Int) else gi R v) (g := gi R) (n := k) (show j < inn.length by rw [HK1.out]; exact hjl) HU.out hun)
                        have HV := Lib.hid (show (if rnkC o n who (mkM k inn) R u = true then ((t + 1 : Nat) : Int) else gi R u) = ((t + 1 : Nat) : Int) from if_pos (by rw [HRV.out, ← HEQ.out]))
                        go_wp2
                        go_roundw
                        case rel => exact ⟨j + 1, by omega, by go_num, by rw [← HX2.out, HV.out]; exact hm5.set_ (by rw [hasFill_len]) _, below_set (by show wl.heap.size ≤ gM; omega) hb6⟩
                        case measure => simp [intOf]; omega
                      | false =>
                        have HX2 := Lib.hid (hasFill_skip (f := fun v => if rnkC o n who (mkM k inn) R v = true then ((t + 1 : Nat) : Int) else gi R v) (g := gi R) (n := k) (show j < inn.length by rw [HK1.out]; exact hjl) HU.out (if_neg (by rw [HRV.out, ← HEQ.out]; simp)))
                        go_wp2
                        go_roundw
                        case rel => exact ⟨j + 1, by omega, by go_num, by rw [HX2.out]; exact hm5, hb6⟩
                        case measure => simp [intOf]; omega
                  · have hdn : decide (gi R u < 0) = false := decide_eq_false hneg
                    have HX2 := Lib.hid (hasFill_skip (f := fun v => if rnkC o n who (mkM k inn) R v = true then ((t + 1 : Nat) : Int) else gi R v) (g := gi R) (n := k) (show j < inn.length by rw [HK1.out]; exact hjl) HU.out (if_neg (by unfold rnkC; rw [hdn]; simp)))
                    go_wp2
                    go_quiet (fail)
                    go_wp2
                    go_roundw
                    case rel => exact ⟨j + 1, by omega, by go_num, by rw [HX2.out]; exact hm.drewN _, below_drewN hb4 _⟩
                    case measure => simp [intOf]; omega
                · obtain rfl : j = k1 := by omega
                  replace hm : OI 2 wr wl.heap.size (.slice (some ⟨gM, 0, none⟩) k cM) (rnks o n who inn goal k (t + 1)) := by
                    rw [hasFill_all (by rw [HK1.out]; omega)] at hm
                    rw [rnks, ← HRT.out]
                    exact hm
                  have hR2l := rnks_len o n who inn goal k (t + 1)
                  have hcm := l1Same _ _ _ _ _ _ _ _ wr hm.reads ho4.reads
                  by_cases hsame : rnks o n who inn goal k (t + 1) = R
                  · rw [show eqL (rnks o n who inn goal k (t + 1)) R = true from decide_eq_true hsame] at hcm
                    have HIS := Lib.hid (show isRnk o n who inn goal k R from ⟨t, HRT.out, by rw [rnks, ← HRT.out] at hsame; exact rnkS_new hsame⟩)
                    clear hsame hR2l
                    go_wp2_with fail
                    refine hcm.mono ?_; rintro e w5 ⟨rfl, q5, rfl⟩
                    go_wp2
                    go_ret
                    exact ⟨_, rfl, by rw [HS.out, ← HIS.out.is]; exact (ho4.drewN q5).more (by omega), below_drewN (hw4.mono hB) _⟩
                  · rw [show eqL (rnks o n who inn goal k (t + 1)) R = false from decide_eq_false hsame] at hcm
                    have HNEW := Lib.hid (show negs (rnks o n who inn goal k (t + 1)) < negs R by
                      have hx : ∃ v, v < k ∧ hasL inn (v : Int) = true ∧ rnkC o n who (mkM k inn) R v = true := by
                        refine Classical.byContradiction fun hne => hsame ?_
                        rw [rnks, ← HRT.out]
                        refine rnkS_end HRL.out (fun v hv hi => ?_) _
                        cases hc : rnkC o n who (mkM k inn) R v with
                        | false => rfl
                        | true => exact absurd ⟨v, hv, hi, hc⟩ hne
                      obtain ⟨v, hv, hi, hc⟩ := hx
                      rw [rnks, ← HRT.out]
                      exact rnkS_negs HRL.out hv hi hc)
                    clear hsame hR2l
                    go_wp2_with fail
                    refine hcm.mono ?_; rintro e w5 ⟨rfl, q5, rfl⟩
                    go_wp2
                    go_roundw
                    case rel => exact ⟨t + 1, _, by go_num, by omega, rfl, by have := HNEW.out; have := HNEG.out; omega, (hm.drewN q5).more (by omega), below_drewN hbw _⟩
                    case measure => simp [intOf]; omega
            · obtain rfl : t = k := by omega
              have HIS := Lib.hid (show isRnk o n who inn goal t R from ⟨t, HRT.out, rnkEnd_full HRL.out (by have := HNEG.out; omega)⟩)
              have hti : ¬ (((t + 1 : Nat) : Int)) ≤ (t : Int) := by omega
              go_wp2
              go_ret
              exact ⟨_, rfl, by rw [HS.out, ← HIS.out.is]; exact ho.more (by omega), hwr.mono hB⟩
end Go.Proofs.Ytfjhkjikfjpnpaa
