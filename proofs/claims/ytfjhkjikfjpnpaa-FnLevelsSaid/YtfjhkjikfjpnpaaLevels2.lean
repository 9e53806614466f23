/- Levels: spec.l15Levels. -/
import Derived.Test.YtfjhkjikfjpnpaaLevels
namespace Go.Proofs.Ytfjhkjikfjpnpaa
open Go.RowKit

set_option maxRecDepth 100000 in
set_option maxHeartbeats 3200000 in
theorem l15Levels (A0 A1 C : Option Addr) (n0 c0 n1 c1 k d : Nat) (o : List Int) (n : List (List Int)) (who : Int) (s : List Int) (w : World) (B : Nat) (hB : B ≤ w.heap.size) (ha : RI w A0 n0 c0 o) (hb : RII w A1 n1 c1 n) (hs : RI w C k d s) (hf : fineAr o n) (hst : setB s o.length = true) :
    Calls Try.prog 108 #[.agg #[.slice A0 n0 c0, .slice A1 n1 c1], .int .i64 who, .slice C k d] w fun e w' => ∃ v, e = .returned v ∧ OI 2 w' B v (levelsL o n who s) ∧ Below B w w' := by
  have HL := Lib.hid ha.len
  have hm0 : 0 < n0 := by have := hf.1; rw [HL.out] at this; omega
  have hm1 : n0 ≤ 256 := by have := hf.2.1; rw [HL.out] at this; omega
  have HS := Lib.hid (show levelsL o n who s = lvlE o n who (mkM n0 s) n0 by unfold levelsL; rw [HL.out])
  have HF := Lib.hid hf
  have hba : Below w.heap.size w (w.alloc (.cells #[.slice A0 n0 c0, .slice A1 n1 c1] 42)) := below_alloc (Nat.le_refl _) (Below.refl _ _)
  have bx := Box.new w 42 #[.slice A0 n0 c0, .slice A1 n1 c1]
  have q0 := bx.d0; have q1 := bx.d1
  have HZ := Lib.hid (show (w.alloc (.cells #[.slice A0 n0 c0, .slice A1 n1 c1] 42)).heap.size = w.heap.size + 1 by simp)
  clear hf hst
  go_enter Try.func108, Try.ntmps108
  go_wp2_with (first
    | (refine wpList_makeI rfl (.tmp 21) rfl _ n0 rfl (by omega) ?_
       intro w1 ho1 hb1
       have bx1 := bx.below hb1 bx.lt
       rw [HZ.out] at ho1 ⊢
       replace hb1 := below_then hb1 hba.size hba)
    | (refine wpList_makeB rfl (.tmp 23) rfl _ n0 rfl (by omega) ?_
       intro w2 ho2 hb2
       have bx2 := bx1.below hb2 bx1.lt
       have hw2 := below_then hb2 hb1.size hb1
       have ho1' := ho1.below hb2
       have hz1 : w.heap.size + 1 < w1.heap.size := (ho1.lt _ rfl).2
       replace ho2 := ho2.more (lo' := w.heap.size + 1) (by omega)))
  clear bx q0 q1 hba HZ ho1 hb1 bx1 hb2
  generalize w1.heap.size = g9 at *
  go_loopw [10] (fun i wr => ∃ k : Nat, k ≤ n0 ∧ i = .int .i64 k ∧ OI 2 wr (w.heap.size + 1) (.slice (some ⟨w.heap.size + 1, 0, none⟩) n0 n0) (fillUp (fun _ => -1) n0 (fun _ => 0) k) ∧ OB 4 wr (w.heap.size + 1) (.slice (some ⟨g9, 0, none⟩) n0 n0) (List.replicate n0 false) ∧ Box wr w.heap.size 42 #[.slice A0 n0 c0, .slice A1 n1 c1] ∧ Below w.heap.size w wr) (fun i _ => n0 - (intOf i).toNat)
  case atStart => exact ⟨0, Nat.zero_le _, rfl, by rw [fillUp_zero, ← fill_zeros]; exact ho1', ho2, bx2, hw2⟩
  case round =>
    clear ho1' ho2 bx2 hw2
    obtain ⟨k, hk, rfl, ho, hx, bx, hw⟩ := hrel
    by_cases hlt : k < n0
    · have hcm := ho.cellAt (i := k) (by rw [fillUp_len]; exact hlt)
      have hfz := ho.hot (i := k) (by rw [fillUp_len])
      have HX := Lib.hid (fillUp_put (f := fun _ => -1) (g := fun _ => 0) hlt)
      go_wp2
      go_roundw
      case rel => exact ⟨k + 1, by omega, by go_num, by rw [← HX.out]; exact ho.set_ (by rw [fillUp_len]) (-1), hx.off (by show g9 ≠ w.heap.size + 1; omega) _, bx.far (by show w.heap.size ≠ w.heap.size + 1; omega) _, below_set (by show w.heap.size ≤ w.heap.size + 1; omega) hw⟩
      case measure => simp [intOf]; omega
    · obtain rfl : k = n0 := by omega
      replace ho : OI 2 wr (w.heap.size + 1) (.slice (some ⟨w.heap.size + 1, 0, none⟩) k k) (negL k) := by rw [fillUp_full] at ho; exact ho
      go_wp2
      go_loopg [11] (k + 1) (fun gk lv wr => ∃ (t : Nat) (L : List Int), lv = .int .i64 t ∧ L = lvls o n who (mkM k s) k t ∧ t + negs L ≤ k ∧ negs L + 1 ≤ gk ∧ OI 2 wr (w.heap.size + 1) (.slice (some ⟨w.heap.size + 1, 0, none⟩) k k) (L) ∧ OB 4 wr (w.heap.size + 1) (.slice (some ⟨g9, 0, none⟩) k k) (lowM L) ∧ Box wr w.heap.size 42 #[.slice A0 k c0, .slice A1 n1 c1] ∧ Below w.heap.size w wr)
      case atStart => exact ⟨0, negL k, rfl, rfl, by have := negs_neg k; omega, by have := negs_neg k; omega, ho, by rw [lowM_neg]; exact hx, bx, hw⟩
      case round =>
        clear ho hx bx hw hlt hk
        obtain ⟨t, L, rfl, hLt, hneg, hgk, ho, hx, bx, hw⟩ := hrel
        have hLl : L.length = k := by rw [hLt, lvls_len]
        have ht : t ≤ 256 := by omega
        have HLT := Lib.hid hLt; have HNEG := Lib.hid hneg; have HGK := Lib.hid hgk; have HLL := Lib.hid hLl
        clear hLt hneg hgk hLl
        obtain ⟨wl, rfl⟩ : ∃ wl : World, wl = wr := ⟨_, rfl⟩
        go_wp2_with (refine wpList_makeB rfl (.tmp 35) rfl _ k rfl (by omega) ?_; intro w3 hs3 hb3; have bx3 := bx.below hb3 bx.lt; have ho3 := ho.below hb3; have hx3 := hx.below hb3; have hw3 := below_then hb3 hw.size hw; have hz8 : w.heap.size + 1 < wl.heap.size := (ho.lt _ rfl).2; have hz9 : g9 < wl.heap.size := (hx.lt _ rfl).2; replace hs3 := hs3.more (lo' := w.heap.size + 1) (by omega); clear ho hx bx hw hb3)
        generalize wl.heap.size = gs at *
        go_loopw [13] (fun i wr => ∃ j : Nat, j ≤ k ∧ i = .int .i64 j ∧ OB 4 wr (w.heap.size + 1) (.slice (some ⟨gs, 0, none⟩) k k) (fillB (fun _ => true) k j) ∧ OI 2 wr (w.heap.size + 1) (.slice (some ⟨w.heap.size + 1, 0, none⟩) k k) (L) ∧ OB 4 wr (w.heap.size + 1) (.slice (some ⟨g9, 0, none⟩) k k) (lowM L) ∧ Box wr w.heap.size 42 #[.slice A0 k c0, .slice A1 n1 c1] ∧ Below w.heap.size w wr) (fun i _ => k - (intOf i).toNat)
        case atStart => exact ⟨0, Nat.zero_le _, rfl, by rw [fillB_zero]; exact hs3, ho3, hx3, bx3, hw3⟩
        case round =>
          clear hs3 ho3 hx3 bx3 hw3
          obtain ⟨j, hj, rfl, hss, ho, hx, bx, hw⟩ := hrel
          by_cases hlt : j < k
          · have hcm := hss.atx (i := j) (by rw [fillB_len]; exact hlt)
            have hfz := hss.hot (i := j) (by rw [fillB_len])
            have HX := Lib.hid (fillB_put (f := fun _ => true) hlt)
            go_wp2
            go_roundw
            case rel => exact ⟨j + 1, by omega, by go_num, by rw [← HX.out]; exact hss.set_ (by rw [fillB_len]) true, ho.off (by show w.heap.size + 1 ≠ gs; omega) _, hx.off (by show g9 ≠ gs; omega) _, bx.far (by show w.heap.size ≠ gs; omega) _, below_set (by show w.heap.size ≤ gs; omega) hw⟩
            case measure => simp [intOf]; omega
          · obtain rfl : j = k := by omega
            rw [fillB_true] at hss
            go_wp2
            go_loopg [14] (cnt (List.replicate j true) + 1) (fun gk x wr => ∃ (fl : Bool) (r : List Bool) (u : Nat), x = .bool fl ∧ r = sweeps (keptL o n who (lowM L) (mkM j s)) j (List.replicate j true) u ∧ (fl = false → sweep (keptL o n who (lowM L) (mkM j s)) r j = r) ∧ cnt r + (if fl = true then 1 else 0) = gk ∧ OB 4 wr (w.heap.size + 1) (.slice (some ⟨gs, 0, none⟩) j j) (r) ∧ OI 2 wr (w.heap.size + 1) (.slice (some ⟨w.heap.size + 1, 0, none⟩) j j) (L) ∧ OB 4 wr (w.heap.size + 1) (.slice (some ⟨g9, 0, none⟩) j j) (lowM L) ∧ Box wr w.heap.size 42 #[.slice A0 j c0, .slice A1 n1 c1] ∧ Below w.heap.size w wr)
            case atStart => exact ⟨true, _, 0, rfl, rfl, by simp, rfl, hss, ho, hx, bx, hw⟩
            case round =>
              clear hss ho hx bx hw hlt hj
              obtain ⟨fl, r, u, rfl, hr, hfix, hgk, hss, ho, hx, bx, hw⟩ := hrel
              have HR := Lib.hid hr; have HFX := Lib.hid hfix; have HG := Lib.hid hgk
              have hrl : r.length = j := by rw [hr, sweeps_len]; simp
              have HRL := Lib.hid hrl
              clear hr hfix hgk hrl
              cases fl with
              | false =>
                have HE := Lib.hid (show lvlSet o n who (mkM j s) j L = r from (isGfp.is ⟨u, HR.out, HFX.out rfl⟩).symm)
                clear HR HFX HG
                go_wp2
                go_loopw [16, 17] (fun x i wr => ∃ (q : Nat) (fl : Bool), q ≤ j ∧ i = .int .i64 q ∧ x = .bool fl ∧ (fl = false → noNew r L q) ∧ (fl = true → negs (lvlUp r t L q) < negs L) ∧ OI 2 wr (w.heap.size + 1) (.slice (some ⟨w.heap.size + 1, 0, none⟩) j j) (lvlUp r t L q) ∧ OB 4 wr (w.heap.size + 1) (.slice (some ⟨g9, 0, none⟩) j j) (lowM (lvlUp r t L q)) ∧ OB 4 wr (w.heap.size + 1) (.slice (some ⟨gs, 0, none⟩) j j) (r) ∧ Box wr w.heap.size 42 #[.slice A0 j c0, .slice A1 n1 c1] ∧ Below w.heap.size w wr) (fun _ i _ => j - (intOf i).toNat)
                case atStart => exact ⟨0, false, Nat.zero_le _, rfl, rfl, fun _ q hq => absurd hq (by omega), by simp, ho, hx, hss, bx, hw⟩
                case round =>
                  clear hss ho hx bx hw
                  obtain ⟨q, fl, hq, rfl, rfl, h1, h2, ho, hx, hss, bx, hw⟩ := hrel
                  have H1 := Lib.hid h1; have H2 := Lib.hid h2
                  clear h1 h2
                  have HUL := Lib.hid (show (lvlUp r t L q).length = j by rw [lvlUp_len, HLL.out])
                  by_cases hlt : q < j
                  · have hc := hss.atx (i := q) (by rw [HRL.out]; exact hlt)
                    have hcx := hx.atx (i := q) (by rw [lowM_len, HUL.out]; exact hlt)
                    have hfx := hx.hot (i := q) (by rw [lowM_len, HUL.out])
                    have hco := ho.cellAt (i := q) (by rw [HUL.out]; exact hlt)
                    have hfo := ho.hot (i := q) (by rw [HUL.out])
                    have hgx : gb (lowM (lvlUp r t L q)) q = decide (0 ≤ gi L q) := by rw [lowM_at (by rw [HUL.out]; exact hlt), lvlUp_at (Nat.le_refl _)]
                    rw [hgx] at hcx
                    clear hgx
                    cases hgb : gb r q with
                    | false =>
                      rw [hgb] at hc
                      have HX := Lib.hid (lvlUp_off (l := (t : Int)) (L := L) (fun h => by have := h.1.symm.trans hgb; cases this))
                      have HN := Lib.hid (show ¬ (gb r q = true ∧ gi L q < 0) from fun h => by have := h.1.symm.trans hgb; cases this)
                      clear hgb
                      go_wp2
                      go_roundw
                      case rel => exact ⟨q + 1, fl, by omega, by go_num, rfl, fun h => all_succ (H1.out h) HN.out, by rw [HX.out]; exact H2.out, by rw [HX.out]; exact ho, by rw [HX.out]; exact hx, hss, bx, hw⟩
                      case measure => simp [intOf]; omega
                    | true =>
                      rw [hgb] at hc
                      by_cases hge : 0 ≤ gi L q
                      · rw [decide_eq_true hge] at hcx
                        have HX := Lib.hid (lvlUp_off (l := (t : Int)) (L := L) (show ¬ (gb r q = true ∧ gi L q < 0) from fun h => by omega))
                        have HN := Lib.hid (show ¬ (gb r q = true ∧ gi L q < 0) from fun h => by omega)
                        clear hgb hge
                        go_wp2
                        go_roundw
                        case rel => exact ⟨q + 1, fl, by omega, by go_num, rfl, fun h => all_succ (H1.out h) HN.out, by rw [HX.out]; exact H2.out, by rw [HX.out]; exact ho, by rw [HX.out]; exact hx, hss, bx, hw⟩
                        case measure => simp [intOf]; omega
                      · rw [decide_eq_false hge] at hcx
                        have hlt2 : gi L q < 0 := by omega
                        have HX := Lib.hid (lvlUp_hit (l := (t : Int)) hgb hlt2)
                        have HD := Lib.hid (lvlUp_lt (r := r) (l := (t : Int)) (L := L) (k := q) (by omega) (by rw [HLL.out]; exact hlt) hgb hlt2)
                        have HE2 := Lib.hid (lvlUp_le (r := r) (l := (t : Int)) (L := L) (by omega) (k := q) (by rw [HLL.out]; omega))
                        clear hgb hge hlt2
                        go_wp2
                        go_roundw
                        case rel =>
                          refine ⟨q + 1, true, by omega, by go_num, rfl, by simp, fun _ => by have := HD.out; have := HE2.out; omega, ?_, ?_, ?_, ?_, ?_⟩
                          · rw [HX.out]; exact (ho.set_ (by rw [HUL.out]) _).off (by show w.heap.size + 1 ≠ g9; omega) _
                          · rw [HX.out, ← lowM_set (by omega)]; exact (hx.off (by show g9 ≠ w.heap.size + 1; omega) _).set_ (by rw [lowM_len, HUL.out]) true
                          · exact (hss.off (by show gs ≠ w.heap.size + 1; omega) _).off (by show gs ≠ g9; omega) _
                          · exact (bx.far (by show w.heap.size ≠ w.heap.size + 1; omega) _).far (by show w.heap.size ≠ g9; omega) _
                          · exact below_set (by show w.heap.size ≤ g9; omega) (below_set (by show w.heap.size ≤ w.heap.size + 1; omega) hw)
                        case measure => simp [intOf]; omega
                  · obtain rfl : q = j := by omega
                    cases fl with
                    | false =>
                      have HZ2 := Lib.hid (lvlUp_none (l := (t : Int)) (H1.out rfl))
                      have HIS := Lib.hid (show isLvl o n who (mkM q s) q L from ⟨t, HLT.out, by rw [HE.out]; exact H1.out rfl⟩)
                      go_wp2
                      go_ret
                      exact ⟨_, rfl, by rw [HS.out, ← HIS.out.is, ← HZ2.out]; exact ho.more (by omega), hw.mono hB⟩
                    | true =>
                      go_wp2
                      go_roundg (negs (lvlUp r t L q) + 1)
                      case rel => exact ⟨t + 1, lvlUp r t L q, by go_num, by rw [lvls, ← HLT.out, HE.out], by have := H2.out (by simp); have := HNEG.out; omega, Nat.le_refl _, ho, hx, bx, hw⟩
                      case measure => have := H2.out (by simp); have := HGK.out; omega
              | true =>
                go_wp2
                go_loopw [14, 15] (fun x i wr => ∃ (q : Nat) (fl : Bool), q ≤ j ∧ i = .int .i64 q ∧ x = .bool fl ∧ (fl = false → sweep (keptL o n who (lowM L) (mkM j s)) r q = r) ∧ (fl = true → cnt (sweep (keptL o n who (lowM L) (mkM j s)) r q) < cnt r) ∧ OB 4 wr (w.heap.size + 1) (.slice (some ⟨gs, 0, none⟩) j j) (sweep (keptL o n who (lowM L) (mkM j s)) r q) ∧ OI 2 wr (w.heap.size + 1) (.slice (some ⟨w.heap.size + 1, 0, none⟩) j j) (L) ∧ OB 4 wr (w.heap.size + 1) (.slice (some ⟨g9, 0, none⟩) j j) (lowM L) ∧ Box wr w.heap.size 42 #[.slice A0 j c0, .slice A1 n1 c1] ∧ Below w.heap.size w wr) (fun _ i _ => j - (intOf i).toNat)
                case atStart => exact ⟨0, false, Nat.zero_le _, rfl, rfl, fun _ => rfl, by simp, hss, ho, hx, bx, hw⟩
                case round =>
                  clear hss ho hx bx hw
                  obtain ⟨q, fl, hq, rfl, rfl, h1, h2, hss, ho, hx, bx, hw⟩ := hrel
                  have H1 := Lib.hid h1; have H2 := Lib.hid h2
                  clear h1 h2
                  have HSL := Lib.hid (show (sweep (keptL o n who (lowM L) (mkM j s)) r q).length = j by rw [sweep_len, HRL.out])
                  generalize hSW : sweep (keptL o n who (lowM L) (mkM j s)) r q = sw at *
                  have HSW := Lib.hid hSW
                  clear hSW
                  by_cases hlt : q < j
                  · have hc := hss.atx (i := q) (by rw [HSL.out]; exact hlt)
                    have q0 := bx.d0; have q1 := bx.d1
                    cases hgb : gb sw q with
                    | false =>
                      rw [hgb] at hc
                      have HX := Lib.hid ((sweep_off (kf := (keptL o n who (lowM L) (mkM j s))) (ms := r) (k := q) (by rw [HSW.out]; exact hgb)).trans HSW.out)
                      clear hgb
                      go_wp2
                      go_roundw
                      case rel => exact ⟨q + 1, fl, by omega, by go_num, rfl, by rw [HX.out]; exact H1.out, by rw [HX.out]; exact H2.out, by rw [HX.out]; exact hss, ho, hx, bx, hw⟩
                      case measure => simp [intOf]; omega
                    | true =>
                      rw [hgb] at hc
                      have HGB := Lib.hid hgb
                      have hcall := l15Into A0 A1 _ j c0 n1 c1 _ _ o n who q (lowM L) wr _ (Nat.le_refl _) (ha.keep (keeps_below hw)) (hb.keep (keeps_below hw)) hx.reads HF.out hlt rfl
                      clear hgb
                      cases hk1 : intoB o n who (lowM L) q with
                      | true =>
                        rw [hk1] at hcall
                        have HX := Lib.hid ((sweep_kept (kf := (keptL o n who (lowM L) (mkM j s))) (ms := r) (k := q) (by rw [HSW.out]; exact keptL_1 hk1)).trans HSW.out)
                        clear hk1
                        go_wp2_with fail
                        refine hcall.mono ?_; rintro e w4 ⟨rfl, hb4⟩
                        go_wp2
                        go_roundw
                        case rel => exact ⟨q + 1, fl, by omega, by go_num, rfl, by rw [HX.out]; exact H1.out, by rw [HX.out]; exact H2.out, by rw [HX.out]; exact hss.below hb4, ho.below hb4, hx.below hb4, bx.below hb4 bx.lt, below_then hb4 hw.size hw⟩
                        case measure => simp [intOf]; omega
                      | false =>
                        rw [hk1] at hcall
                        have hsfe : gb (mkM j s) q = hasL s (q : Int) := mkM_at hlt
                        cases hsf : hasL s (q : Int) with
                        | false =>
                          have HX := Lib.hid (sweep_hit (kf := (keptL o n who (lowM L) (mkM j s))) (ms := r) (k := q) (by rw [HSW.out]; exact HGB.out) (by rw [HSW.out]; exact keptL_2 hk1 (hsfe.trans hsf)))
                          have HC := Lib.hid (cnt_off HGB.out)
                          have HSF := Lib.hid hsf
                          clear hk1 hsfe hsf
                          go_wp2_with fail
                          refine hcall.mono ?_; rintro e w4 ⟨rfl, hb4⟩
                          go_wp2_with fail
                          refine (l16Has _ _ _ _ _ _ ((hs.keep (keeps_below hw)).keep (keeps_below hb4))).mono ?_; rintro e w5 ⟨rfl, hq5⟩
                          rw [HSF.out]
                          have hb5 := below_qt hq5 hb4
                          have hs5 := hss.below hb5
                          have hc5 := hs5.atx (i := q) (by rw [HSL.out]; exact hlt)
                          have hf5 := hs5.hot (i := q) (by rw [HSL.out])
                          go_wp2
                          go_roundw
                          case rel => 
                              refine ⟨q + 1, true, by omega, by go_num, rfl, by simp, fun _ => ?_, by rw [HX.out, HSW.out]; exact hs5.set_ (by rw [HSL.out]) false, (ho.below hb5).off (by show w.heap.size + 1 ≠ gs; omega) _, (hx.below hb5).off (by show g9 ≠ gs; omega) _, (bx.below hb5 bx.lt).far (by show w.heap.size ≠ gs; omega) _, below_set (by show w.heap.size ≤ gs; omega) (below_then hb5 hw.size hw)⟩
                              rw [HX.out, HSW.out]
                              have := HC.out
                              cases fl with
                              | true => have := H2.out rfl; omega
                              | false => have h9 := H1.out rfl; rw [h9] at this ⊢; exact this
                          case measure => simp [intOf]; omega
                        | true =>
                          have hcall2 := fun w5 hb5 => l15Into A0 A1 _ j c0 n1 c1 _ _ o n who q sw w5 _ (Nat.le_refl _) ((ha.keep (keeps_below hw)).keep (keeps_below hb5)) ((hb.keep (keeps_below hw)).keep (keeps_below hb5)) (hss.below hb5).reads HF.out hlt rfl
                          have HC2 := Lib.hid hcall2
                          clear hcall2
                          cases hk2 : intoB o n who sw q with
                          | true =>
                            have HX := Lib.hid ((sweep_kept (kf := (keptL o n who (lowM L) (mkM j s))) (ms := r) (k := q) (by rw [HSW.out]; exact keptL_3 hk1 (hsfe.trans hsf) hk2)).trans HSW.out)
                            have HSF := Lib.hid hsf; have HK2 := Lib.hid hk2
                            clear hk1 hsfe hsf hk2
                            go_wp2_with fail
                            refine hcall.mono ?_; rintro e w4 ⟨rfl, hb4⟩
                            go_wp2_with fail
                            refine (l16Has _ _ _ _ _ _ ((hs.keep (keeps_below hw)).keep (keeps_below hb4))).mono ?_; rintro e w5 ⟨rfl, hq5⟩
                            rw [HSF.out]
                            have hb5 := below_qt hq5 hb4
                            have q50 := (bx.below hb5 bx.lt).d0; have q51 := (bx.below hb5 bx.lt).d1
                            go_wp2_with fail
                            refine (HC2.out _ hb5).mono ?_; rintro e w6 ⟨rfl, hb6⟩
                            rw [HK2.out]
                            have hb7 := below_then hb6 hb5.size hb5
                            go_wp2
                            go_roundw
                            case rel => exact ⟨q + 1, fl, by omega, by go_num, rfl, by rw [HX.out]; exact H1.out, by rw [HX.out]; exact H2.out, by rw [HX.out]; exact hss.below hb7, ho.below hb7, hx.below hb7, bx.below hb7 bx.lt, below_then hb7 hw.size hw⟩
                            case measure => simp [intOf]; omega
                          | false =>
                            have HX := Lib.hid (sweep_hit (kf := (keptL o n who (lowM L) (mkM j s))) (ms := r) (k := q) (by rw [HSW.out]; exact HGB.out) (by rw [HSW.out]; exact keptL_3 hk1 (hsfe.trans hsf) hk2))
                            have HC := Lib.hid (cnt_off HGB.out)
                            have HSF := Lib.hid hsf; have HK2 := Lib.hid hk2
                            clear hk1 hsfe hsf hk2
                            go_wp2_with fail
                            refine hcall.mono ?_; rintro e w4 ⟨rfl, hb4⟩
                            go_wp2_with fail
                            refine (l16Has _ _ _ _ _ _ ((hs.keep (keeps_below hw)).keep (keeps_below hb4))).mono ?_; rintro e w5 ⟨rfl, hq5⟩
                            rw [HSF.out]
                            have hb5' := below_qt hq5 hb4
                            have q50 := (bx.below hb5' bx.lt).d0; have q51 := (bx.below hb5' bx.lt).d1
                            go_wp2_with fail
                            refine (HC2.out _ hb5').mono ?_; rintro e w6 ⟨rfl, hb6⟩
                            rw [HK2.out]
                            have hb5 := below_then hb6 hb5'.size hb5'
                            have hs5 := hss.below hb5
                            have hc5 := hs5.atx (i := q) (by rw [HSL.out]; exact hlt)
                            have hf5 := hs5.hot (i := q) (by rw [HSL.out])
                            go_wp2
                            go_roundw
                            case rel => 
                              refine ⟨q + 1, true, by omega, by go_num, rfl, by simp, fun _ => ?_, by rw [HX.out, HSW.out]; exact hs5.set_ (by rw [HSL.out]) false, (ho.below hb5).off (by show w.heap.size + 1 ≠ gs; omega) _, (hx.below hb5).off (by show g9 ≠ gs; omega) _, (bx.below hb5 bx.lt).far (by show w.heap.size ≠ gs; omega) _, below_set (by show w.heap.size ≤ gs; omega) (below_then hb5 hw.size hw)⟩
                              rw [HX.out, HSW.out]
                              have := HC.out
                              cases fl with
                              | true => have := H2.out rfl; omega
                              | false => have h9 := H1.out rfl; rw [h9] at this ⊢; exact this
                            case measure => simp [intOf]; omega
                  · obtain rfl : q = j := by omega
                    go_wp2
                    go_roundg (cnt sw + (if fl = true then 1 else 0))
                    case rel => exact ⟨fl, sw, u + 1, rfl, by rw [sweeps, ← HR.out, HSW.out], fun hf => by have h9 := H1.out hf; rw [← HSW.out] at h9 ⊢; rw [h9]; exact h9, rfl, hss, ho, hx, bx, hw⟩
                    case measure =>
                      have := HG.out
                      cases fl with
                      | true => have := H2.out rfl; simp at *; omega
                      | false => have := H1.out rfl; simp [this] at *; omega
end Go.Proofs.Ytfjhkjikfjpnpaa
