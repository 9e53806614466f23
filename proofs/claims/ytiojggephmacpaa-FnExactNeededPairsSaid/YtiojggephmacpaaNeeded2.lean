/- NeededPairs, spec. -/
import Derived.Test.YtiojggephmacpaaNeeded
namespace Go.Proofs.Ytiojggephmacpaa
open Go.RowKit

set_option maxRecDepth 100000 in
set_option maxHeartbeats 1600000 in
theorem specNeededPairs (A : Option Addr) (n c : Nat) (ps : List PairD) (w : World) (B : Nat) (hB : B ≤ w.heap.size) (ha : RPS w A n c ps) :
    Calls Try.prog 57 #[.slice A n c] w fun e w' => ∃ v, e = .returned v ∧ OPS w' B v (neededR ps) ∧ Below B w w' := by
  have b1 := ha.cap; have b2 := ha.top
  have HL := Lib.hid ha.len
  have hba : Below w.heap.size w (w.alloc (.cells #[] 101)) := below_alloc (Nat.le_refl _) (Below.refl _ _)
  have hem := OPS.empty (w := w) (B := w.heap.size) (Nat.le_refl _)
  cases h1 : pairsB ps 256 with
  | false =>
    have E := Lib.hid (show neededR ps = [] from if_neg (by rw [h1]; decide))
    go_enter Try.func57, Try.ntmps57
    go_wp2_with fail
    refine (specPairsOk _ _ _ _ _ _ (ha.keep (keeps_below hba))).mono ?_; rintro e w1 ⟨rfl, hq1⟩
    rw [in256a, h1]
    have hb1 := below_qt hq1 hba
    go_wp2
    go_ret
    exact ⟨_, rfl, by rw [E.out]; exact (hem.below (below_qt hq1 (Below.refl _ _))).more hB, hb1.mono hB⟩
  | true =>
    have HF := Lib.hid (finePs_of h1 (by omega) (by omega))
    have hn : n ≤ 4 := by have := HF.out.1; rw [HL.out] at this; omega
    have E := Lib.hid (show neededR ps = neededUp ps n from (if_pos h1).trans (by rw [HL.out]))
    go_enter Try.func57, Try.ntmps57
    go_wp2_with fail
    refine (specPairsOk _ _ _ _ _ _ (ha.keep (keeps_below hba))).mono ?_; rintro e w1 ⟨rfl, hq1⟩
    rw [in256a, h1]
    clear h1
    have hb1 := below_qt hq1 hba
    have ho1 := hem.below (below_qt hq1 (Below.refl _ _))
    go_wp2
    go_loopw [3, 4] (fun v i wr => ∃ (k : Nat) (L : List PairD), k ≤ n ∧ i = .int .i64 k ∧ L = neededUp ps k ∧ OPS wr w.heap.size v L ∧ Below w.heap.size w wr) (fun _ i _ => n - (intOf i).toNat)
    case atStart => exact ⟨0, [], Nat.zero_le _, rfl, rfl, ho1, hb1⟩
    case round =>
      clear hb1 ho1 hem hba hq1
      obtain ⟨wo, rfl⟩ : ∃ wo : World, wo = wr := ⟨_, rfl⟩
      obtain ⟨k, L, hk, rfl, hLk, ho, hbr⟩ := hrel
      have HLk := Lib.hid hLk
      have hlen : L.length ≤ 1048576 := by have := neededUp_len ps k; rw [← hLk] at this; omega
      clear hLk
      obtain ⟨Av, cv, rfl⟩ := ho.form
      have hsz := hbr.size
      by_cases hlt : k < n
      · obtain ⟨bb, off, A1, n1, c1, A2, n2, c2, rfl, hc1, hc2, r1, r2⟩ := (ha.keep (keeps_below hbr)).at_ hlt
        have HA := Lib.hid ha
        have hki : (k : Int) < (n : Int) := by omega
        have hk0 : (0 : Int) ≤ (k : Int) := by omega
        obtain ⟨_, _, hl1, hl2⟩ := HF.out.2 k (by rw [HL.out]; exact hlt)
        rw [r1.len] at hl1
        rw [r2.len] at hl2
        have bn1 := r1.cap; have bn2 := r1.top; have bn3 := r2.cap; have bn4 := r2.top
        have HN1 := Lib.hid r1.len
        have HR1 := Lib.hid r1; have HR2 := Lib.hid r2
        clear ha
        go_wp2
        go_loopw [5, 6] (fun x i wr => ∃ (j : Nat) (fl : Bool), j ≤ n1 ∧ i = .int .i64 j ∧ x = .bool fl ∧ fl = outUp (gp ps k).1 (gp ps k).2 j ∧ ∃ q, wr = wo.drewN q) (fun _ i _ => n1 - (intOf i).toNat)
        case atStart => exact ⟨0, false, Nat.zero_le _, rfl, rfl, rfl, 0, rfl⟩
        case round =>
          obtain ⟨j, fl, hj, rfl, rfl, hfl, q, rfl⟩ := hrel
          have HFL := Lib.hid hfl
          clear hfl
          by_cases hjl : j < n1
          · obtain ⟨b', o', rfl, hcj⟩ := r1.at_ hjl
            have hji : (j : Int) < (n1 : Int) := by omega
            have hj0 : (0 : Int) ≤ (j : Int) := by omega
            cases fl with
            | true =>
              have HX := Lib.hid (show outUp (gp ps k).1 (gp ps k).2 (j + 1) = true by rw [outUp, ← HFL.out]; rfl)
              go_wp2
              go_quiet (fail)
              go_wp2
              go_roundw
              case rel => exact ⟨j + 1, true, by omega, by go_num, rfl, HX.out.symm, _, rfl⟩
              case measure => simp [intOf]; omega
            | false =>
              have HX := Lib.hid (show outUp (gp ps k).1 (gp ps k).2 (j + 1) = !hasL (gp ps k).2 (gi (gp ps k).1 j) by rw [outUp, ← HFL.out]; rfl)
              generalize hhas : hasL (gp ps k).2 (gi (gp ps k).1 j) = hb at *
              have hcont := fun m => l16Has _ _ _ (gp ps k).2 (gi (gp ps k).1 j) (wo.drewN m) (by exact HR2.out)
              rw [hhas] at hcont
              have HC := Lib.hid hcont
              clear hhas hcont
              go_wp2
              go_quiet ((go_at_call 104; first | exact quiet1 (HC.out _) | exact quiet0 (HC.out _)))
              go_wp2
              go_roundw
              case rel => exact ⟨j + 1, !hb, by omega, by go_num, rfl, HX.out.symm, _, rfl⟩
              case measure => simp [intOf]; omega
          · obtain rfl : j = n1 := by omega
            have HO := Lib.hid (show fl = outUp (gp ps k).1 (gp ps k).2 (gp ps k).1.length by rw [HN1.out]; exact HFL.out)
            clear HFL
            go_wp2
            go_loopw [5, 7] (fun x i wr => ∃ (t : Nat) (f2 : Bool), t ≤ k ∧ i = .int .i64 t ∧ x = .bool f2 ∧ f2 = (fl && newUp ps k t) ∧ Below wo.heap.size wo wr) (fun _ i _ => k - (intOf i).toNat)
            case atStart => exact ⟨0, fl, Nat.zero_le _, rfl, rfl, by rw [newUp, Bool.and_true], below_drewN (Below.refl _ _) _⟩
            case round =>
              obtain ⟨t, f2, ht, rfl, rfl, hf2, hbt⟩ := hrel
              have HF2 := Lib.hid hf2
              clear hf2
              have hw := below_then hbt hsz hbr
              by_cases htl : t < k
              · obtain ⟨b3, o3, A3, n3, c3, A4, n4, c4, hA3, hc3, hc4, r3, r4⟩ := (HA.out.keep (keeps_below hw)).at_ (i := t) (by omega)
                injection hA3 with hA3
                injection hA3 with hA4 hA5
                subst hA4; subst hA5
                have hti : (t : Int) < (k : Int) := by omega
                have hti2 : (t : Int) < (n : Int) := by omega
                have ht0 : (0 : Int) ≤ (t : Int) := by omega
                have K := keeps_below hbt
                have hc1t := K _ _ hc1; have hc2t := K _ _ hc2
                clear K
                cases f2 with
                | false =>
                  have HX := Lib.hid (show (fl && newUp ps k (t + 1)) = false by rw [newUp, ← Bool.and_assoc, ← HF2.out]; rfl)
                  go_wp2
                  go_quiet (fail)
                  go_wp2
                  go_roundw
                  case rel => exact ⟨t + 1, false, by omega, by go_num, rfl, HX.out.symm, below_drewN hbt _⟩
                  case measure => simp [intOf]; omega
                | true =>
                  have HX := Lib.hid (show (fl && newUp ps k (t + 1)) = !eqPD (gp ps t) (gp ps k) by rw [newUp, ← Bool.and_assoc, ← HF2.out]; rfl)
                  have r1t := HR1.out.keep (keeps_below hbt); have r2t := HR2.out.keep (keeps_below hbt)
                  go_wp2_with fail
                  go_region_held3 (fun w' => w'.cell? ⟨bb, off + t * 2, none⟩ = some (.slice A3 n3 c3) ∧ w'.cell? ⟨bb, off + t * 2 + 1, none⟩ = some (.slice A4 n4 c4) ∧ w'.cell? ⟨bb, off + k * 2, none⟩ = some (.slice A1 j c1) ∧ w'.cell? ⟨bb, off + k * 2 + 1, none⟩ = some (.slice A2 n2 c2))
                    (refine ⟨?_, ?_, ?_, ?_⟩ <;> repeat (first | with_reducible assumption | with_reducible refine keepD ?_ | with_reducible refine keepA ?_))
                    (first
                      | (go_at_call 105
                         refine (l16Same A3 A4 A1 A2 n3 n4 _ n2 c3 c4 c1 c2 (gp ps t) (gp ps k) _ _ (Nat.le_refl _) (by exact r3) (by exact r4) (by exact r1t) (by exact r2t)).mono ?_
                         rintro e w4 ⟨rfl, hb4⟩
                         replace hb4 := below_undrew hb4
                         have hbw := below_then hb4 hbt.size hbt
                         have K := keeps_below hb4
                         have hc1u := K _ _ hc1t
                         have hc2u := K _ _ hc2t
                         have hc3u := K _ _ hc3
                         have hc4u := K _ _ hc4
                         clear K))
                  all_goals
                    go_wp2
                    go_roundw
                    case rel => exact ⟨t + 1, !eqPD (gp ps t) (gp ps k), by omega, by go_num, rfl, HX.out.symm, hbw⟩
                    case measure => simp [intOf]; omega
              · obtain rfl : t = k := by omega
                have HQ := Lib.hid (show neededB ps t = f2 by unfold neededB; rw [← HO.out, ← HF2.out])
                have K := keeps_below hbt
                have hc1t := K _ _ hc1; have hc2t := K _ _ hc2
                clear K
                cases f2 with
                | false =>
                  have HX := Lib.hid (neededUp_no HQ.out)
                  go_wp2
                  exact ⟨⟨t + 1, L, by omega, by go_num, by rw [HX.out, HLk.out], ho.below hbt, hw⟩, by simp [intOf]; omega⟩
                | true =>
                  have HX := Lib.hid (neededUp_yes HQ.out)
                  have hsw := hbt.size
                  go_wp2_with (first
                    | (go_at_call 106
                       refine (l16Copy _ _ _ _ _ _ (gp ps t) _ _ (Nat.le_refl _) (HR1.out.keep (keeps_below hbt)) (HR2.out.keep (keeps_below hbt)) (by omega) (by omega)).mono ?_
                       rintro e w4 ⟨t0, t1, rfl, hot, hb4⟩
                       obtain ⟨B0, d0, B1, d1, rfl, rfl⟩ := hot.form
                       have hw4 := below_then hb4 hbt.size hbt)
                    | (at_builtin; refine wpList_pushP rfl (.tmp 66) (.tmp 72) rfl wo _ w.heap.size _ L _ _ (gp ps t).1 (gp ps t).2 rfl rfl hsz ho hw4 (hot.1.more hsw) (hot.2.1.more hsw) hot.2.2 hlen ?_; intro v5 w5 ho5 hb5 hc5))
                  exact ⟨⟨t + 1, _, by omega, by go_num, by rw [HX.out, ← HLk.out], ho5, hbr.trans ((hw4.mono hsz).trans hb5)⟩, by simp [intOf]; omega⟩
      · obtain rfl : k = n := by omega
        go_wp2
        go_ret
        exact ⟨_, rfl, by rw [E.out, ← HLk.out]; exact ho.more hB, hbr.mono hB⟩
end Go.Proofs.Ytiojggephmacpaa
