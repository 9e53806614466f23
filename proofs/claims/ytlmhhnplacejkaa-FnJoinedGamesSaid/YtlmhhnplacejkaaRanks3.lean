/- Ranks: spec.l3Ranks, impl.ranksIn. Ranks: spec.l3Ranks. -/
import Derived.Test.YtlmhhnplacejkaaRanks
namespace Go.Proofs.Ytlmhhnplacejkaa
open Go.RowKit

theorem lst_neg {ns : List Int} {ins : List Bool} {rk : List Int} : ∀ {k : Nat}, pSome ns ins rk k = false → lstUp ns ins rk k = -1
  | 0, _ => rfl
  | k + 1, h => by
    rw [pSome, Bool.or_eq_false_iff] at h
    rw [lstUp, lst_neg h.1, if_neg]
    rintro ⟨h1, h2, _⟩
    rw [h1, decide_eq_true h2] at h
    cases h.2
theorem lst_min {ns : List Int} {ins : List Bool} {rk : List Int} : ∀ {k : Nat}, pSome ns ins rk k = true → (∃ i, i < k ∧ gb ins (gi ns i).toNat = true ∧ 0 ≤ gi rk (gi ns i).toNat ∧ lstUp ns ins rk k = gi rk (gi ns i).toNat)
  | 0, h => by cases h
  | k + 1, h => by
    rw [lstUp]
    by_cases hc : gb ins (gi ns k).toNat = true ∧ 0 ≤ gi rk (gi ns k).toNat ∧ (lstUp ns ins rk k < 0 ∨ gi rk (gi ns k).toNat < lstUp ns ins rk k)
    · rw [if_pos hc]
      exact ⟨k, by omega, hc.1, hc.2.1, rfl⟩
    · rw [if_neg hc]
      have hk : pSome ns ins rk k = true := by
        cases e : pSome ns ins rk k with
        | true => rfl
        | false =>
          rw [pSome, e, Bool.false_or, Bool.and_eq_true, decide_eq_true_iff] at h
          exact absurd ⟨h.1, h.2, .inl (by rw [lst_neg e]; omega)⟩ hc
      obtain ⟨i, hi, h1⟩ := lst_min hk
      exact ⟨i, by omega, h1⟩
theorem mst_max {ns : List Int} {ins : List Bool} {rk : List Int} : ∀ {k : Nat}, (pSome ns ins rk k = true → ∃ i, i < k ∧ gb ins (gi ns i).toNat = true ∧ 0 ≤ gi rk (gi ns i).toNat ∧ mstUp ns ins rk k = gi rk (gi ns i).toNat) ∧ (pSome ns ins rk k = false → mstUp ns ins rk k = -1) ∧ ∀ i, i < k → gb ins (gi ns i).toNat = true → gi rk (gi ns i).toNat ≤ mstUp ns ins rk k ∨ gi rk (gi ns i).toNat < 0
  | 0 => ⟨(fun h => by cases h), fun _ => rfl, fun i hi => absurd hi (by omega)⟩
  | k + 1 => by
    obtain ⟨ih1, ih2, ih3⟩ := mst_max (ns := ns) (ins := ins) (rk := rk) (k := k)
    rw [mstUp, pSome]
    by_cases hc : gb ins (gi ns k).toNat = true ∧ 0 ≤ gi rk (gi ns k).toNat
    · rw [if_pos hc, hc.1, decide_eq_true hc.2]
      refine ⟨fun _ => ?_, fun h => by simp at h, fun i hi hg => ?_⟩
      · by_cases hl : gi rk (gi ns k).toNat < mstUp ns ins rk k
        · rw [if_pos hl]
          cases e : pSome ns ins rk k with
          | true =>
            obtain ⟨i, hi, h1⟩ := ih1 e
            exact ⟨i, by omega, h1⟩
          | false => have := ih2 e; omega
        · rw [if_neg hl]
          exact ⟨k, by omega, hc.1, hc.2, rfl⟩
      · by_cases e : i = k
        · subst e
          left
          split <;> omega
        · rcases ih3 i (by omega) hg with h1 | h1
          · left; split <;> omega
          · exact .inr h1
    · rw [if_neg hc]
      have hf : (gb ins (gi ns k).toNat && decide (0 ≤ gi rk (gi ns k).toNat)) = false := by
        cases e1 : gb ins (gi ns k).toNat with
        | false => rfl
        | true => rw [decide_eq_false (fun h => hc ⟨e1, h⟩)]; rfl
      rw [hf, Bool.or_false]
      refine ⟨fun h => ?_, ih2, fun i hi hg => ?_⟩
      · obtain ⟨i, hi, h1⟩ := ih1 h
        exact ⟨i, by omega, h1⟩
      · by_cases e : i = k
        · subst e
          right
          exact Int.not_le.1 fun h => hc ⟨hg, h⟩
        · exact ih3 i (by omega) hg
theorem rank_eq {o : List Int} {n : List (List Int)} {who : Int} {inn goal : List Int} {m k v : Nat} (hset : setB (gl n v) (m : Int) = true) (hv : v < m) (hi : hasL inn (v : Int) = true) (hneg : gi (rnks o n who inn goal m k) v < 0) :
    (rankV o n who (mkM m inn) (rnks o n who inn goal m k) v == ((k + 1 : Nat) : Int)) = pulledB o n who (mkM m inn) (rnks o n who inn goal m k) v := by
  have hu : ∀ i, i < (gl n v).length → (gi (gl n v) i).toNat < m := fun i hi => by
    obtain ⟨j, h1, h2⟩ := set_nat hset hi
    rw [h1]; simpa using h2
  have hun : ∀ k', k = k' + 1 → pulledB o n who (mkM m inn) (rnks o n who inn goal m k') v = false := fun k' e => rnks_unpulled hv hi (by rw [← e]; exact hneg)
  have htop := fun u (h : u < m) => rnks_top (o := o) (n := n) (who := who) (inn := inn) (goal := goal) k u h
  have hold : ∀ k' u, k = k' + 1 → u < m → gi (rnks o n who inn goal m k) u ≤ (k' : Int) → gi (rnks o n who inn goal m k') u = gi (rnks o n who inn goal m k) u := fun k' u e hu h => by
    subst e
    exact rnks_old hu h
  unfold rankV pulledB
  by_cases hw : gi o v = who
  · rw [if_neg (fun h => h.1 hw), if_pos hw, if_pos hw]
    cases e : pSome (gl n v) (mkM m inn) (rnks o n who inn goal m k) (gl n v).length with
    | false =>
      rw [lst_neg e, if_pos (by omega)]
      rw [beq_eq_false_iff_ne]; omega
    | true =>
      obtain ⟨i, hil, h1, h2, h3⟩ := lst_min e
      rw [h3, if_neg (by omega), beq_iff_eq]
      have ht := (htop _ (hu i hil)).1
      by_cases hk : gi (rnks o n who inn goal m k) (gi (gl n v) i).toNat = (k : Int)
      · rw [hk]; rfl
      · exfalso
        obtain ⟨k', rfl⟩ : ∃ k', k = k' + 1 := ⟨k - 1, by omega⟩
        have hq := hun k' rfl
        unfold pulledB at hq
        rw [if_pos hw] at hq
        have : pSome (gl n v) (mkM m inn) (rnks o n who inn goal m k') (gl n v).length = true := pSome_iff.2 ⟨i, hil, h1, by rw [hold k' _ rfl (hu i hil) (by omega)]; exact h2⟩
        rw [hq] at this; cases this
  · rw [if_neg hw]
    cases ea : pAll (gl n v) (mkM m inn) (rnks o n who inn goal m k) (gl n v).length with
    | false =>
      rw [if_pos ⟨hw, rfl⟩, if_neg hw, Bool.and_false]
      rw [beq_eq_false_iff_ne]; omega
    | true =>
      rw [if_neg (fun h => by cases h.2), if_neg hw, Bool.and_true]
      cases ei : pIn (gl n v) (mkM m inn) (gl n v).length with
      | false =>
        have es : pSome (gl n v) (mkM m inn) (rnks o n who inn goal m k) (gl n v).length = false := by
          cases e : pSome (gl n v) (mkM m inn) (rnks o n who inn goal m k) (gl n v).length with
          | false => rfl
          | true =>
            obtain ⟨i, hil, h1, _⟩ := pSome_iff.1 e
            rw [pIn_iff.2 ⟨i, hil, h1⟩] at ei; cases ei
        rw [lst_neg es, if_pos (by omega)]
        rw [beq_eq_false_iff_ne]; omega
      | true =>
        obtain ⟨i0, hi0, hg0⟩ := pIn_iff.1 ei
        have es : pSome (gl n v) (mkM m inn) (rnks o n who inn goal m k) (gl n v).length = true := pSome_iff.2 ⟨i0, hi0, hg0, pAll_iff.1 ea i0 hi0 hg0⟩
        obtain ⟨j, hj, j1, j2, j3⟩ := lst_min es
        obtain ⟨m1, _, m3⟩ := mst_max (ns := gl n v) (ins := mkM m inn) (rk := rnks o n who inn goal m k) (k := (gl n v).length)
        obtain ⟨i, hil, h1, h2, h3⟩ := m1 es
        rw [if_neg (by omega), h3, beq_iff_eq]
        have ht := (htop _ (hu i hil)).1
        by_cases hk : gi (rnks o n who inn goal m k) (gi (gl n v) i).toNat = (k : Int)
        · rw [hk]; rfl
        · exfalso
          obtain ⟨k', rfl⟩ : ∃ k', k = k' + 1 := ⟨k - 1, by omega⟩
          have hq := hun k' rfl
          unfold pulledB at hq
          rw [if_neg hw, ei, Bool.true_and] at hq
          have : pAll (gl n v) (mkM m inn) (rnks o n who inn goal m k') (gl n v).length = true := pAll_iff.2 fun t ht' hg => by
            have hp := pAll_iff.1 ea t ht' hg
            have hle := m3 t ht' hg
            rw [hold k' _ rfl (hu t ht') (by omega)]
            exact hp
          rw [hq] at this; cases this
theorem gi_out {xs : List Int} {i : Nat} (h : xs.length ≤ i) : gi xs i = 0 := by simp [gi, List.getElem?_eq_none h]
theorem rnks_all {o : List Int} {n : List (List Int)} {who : Int} {inn goal : List Int} {m k : Nat} (hk : k ≤ 256) (u : Nat) : gi (rnks o n who inn goal m k) u ≤ 256 := by
  rcases Nat.lt_or_ge u m with h | h
  · have := (rnks_top (o := o) (n := n) (who := who) (inn := inn) (goal := goal) k u h).1
    omega
  · rw [gi_out (by rw [rnks_len]; exact h)]; omega
theorem negs_zero {L : List Int} (h : negs L = 0) {i : Nat} (hi : i < L.length) : 0 ≤ gi L i := by
  rcases Int.lt_or_le (gi L i) 0 with h1 | h1
  · have := negs_set hi h1 (Int.le_refl 0)
    omega
  · exact h1
theorem rnk0_negs (o : List Int) (n : List (List Int)) (who : Int) (inn goal : List Int) (m : Nat) : negs (rnks o n who inn goal m 0) ≤ m := by
  have := negs_le (rnks o n who inn goal m 0)
  rw [rnks_len] at this
  exact this
theorem rnkEnd_full {o : List Int} {n : List (List Int)} {who : Int} {inn : List Int} {R : List Int} {m : Nat} (hl : R.length = m) (h : negs R = 0) : rnkEnd o n who inn R m := fun v hv _ => by
  have := negs_zero h (i := v) (by omega)
  unfold rnkC
  rw [decide_eq_false (by omega)]; rfl
/-- what the loop over 'in' of impl finds -/
def fndUp (o : List Int) (n : List (List Int)) (who : Int) (inn : List Int) (m : Nat) (R : List Int) (k : Nat) : List Int := pick (fun i => rnkC o n who (mkM m inn) R (gi inn i).toNat) (gi inn) k
theorem fnd_has {o : List Int} {n : List (List Int)} {who : Int} {inn : List Int} {m : Nat} {R : List Int} {v : Nat} : hasL (fndUp o n who inn m R inn.length) (v : Int) = (hasL inn (v : Int) && rnkC o n who (mkM m inn) R v) := by
  cases hc : rnkC o n who (mkM m inn) R v with
  | true =>
    rw [Bool.and_true]
    unfold hasL
    refine decide_eq_decide.2 ⟨fun h => ?_, fun h => ?_⟩
    · obtain ⟨i, hi, _, h2⟩ := mem_pick.1 h
      rw [← h2]; exact gi_mem hi
    · obtain ⟨i, hi, h1⟩ := mem_gi h
      exact mem_pick.2 ⟨i, hi, by rw [h1, Int.toNat_natCast]; exact hc, h1⟩
  | false =>
    rw [Bool.and_false]
    unfold hasL
    refine decide_eq_false fun h => ?_
    obtain ⟨i, hi, h1, h2⟩ := mem_pick.1 h
    rw [h2, Int.toNat_natCast, hc] at h1
    cases h1
theorem fnd_all {o : List Int} {n : List (List Int)} {who : Int} {inn : List Int} {m : Nat} {R : List Int} {k : Nat} : fill (fun v => if hasL (fndUp o n who inn m R inn.length) (v : Int) = true then (k : Int) else gi R v) m = rnkS o n who inn (mkM m inn) R k m := by
  unfold rnkS
  refine congrArg (fun f => fill f m) (funext fun v => ?_)
  rw [fnd_has]
  cases h1 : hasL inn (v : Int) <;> cases h2 : rnkC o n who (mkM m inn) R v <;> simp
theorem fnd_end {o : List Int} {n : List (List Int)} {who : Int} {inn : List Int} {m : Nat} {R : List Int} (h : (fndUp o n who inn m R inn.length).length = 0) : rnkEnd o n who inn R m := fun v hv hi => by
  have e : hasL (fndUp o n who inn m R inn.length) (v : Int) = false := by
    rw [List.eq_nil_of_length_eq_zero h]; simp [hasL]
  rw [fnd_has, hi, Bool.true_and] at e
  exact e
theorem fnd_some {o : List Int} {n : List (List Int)} {who : Int} {inn : List Int} {m : Nat} {R : List Int} (hs : setB inn (m : Int) = true) {j : Nat} (hj : j < (fndUp o n who inn m R inn.length).length) : ∃ u : Nat, gi (fndUp o n who inn m R inn.length) j = (u : Int) ∧ u < m ∧ hasL inn (u : Int) = true ∧ rnkC o n who (mkM m inn) R u = true := by
  obtain ⟨i, hi, h1, h2⟩ := mem_pick.1 (gi_mem hj)
  obtain ⟨u, hu, hum⟩ := set_nat hs hi
  rw [hu, Int.toNat_natCast] at h1
  exact ⟨u, by rw [← hu]; exact h2.symm, hum, decide_eq_true (by rw [← hu]; exact gi_mem hi), h1⟩
theorem hasL_gi {xs : List Int} {j u : Nat} (hj : j < xs.length) (hu : gi xs j = (u : Int)) : hasL xs (u : Int) = true := decide_eq_true (by rw [← hu]; exact gi_mem hj)


set_option maxRecDepth 100000 in
set_option maxHeartbeats 3200000 in
theorem ranksIn (A0 A1 C1 C2 : Option Addr) (n0 c0 n1 c1 k1 d1 k2 d2 : Nat) (o : List Int) (n : List (List Int)) (who : Int) (inn goal : List Int) (w : World) (B : Nat) (hB : B ≤ w.heap.size) (ha : RI w A0 n0 c0 o) (hb : RII w A1 n1 c1 n) (hi : RI w C1 k1 d1 inn) (hg : RI w C2 k2 d2 goal) (hf : fineAr o n) (hsi : setB inn o.length = true) (hsg : setB goal o.length = true) :
    Calls Try.prog 118 #[.agg #[.slice A0 n0 c0, .slice A1 n1 c1], .int .i64 who, .slice C1 k1 d1, .slice C2 k2 d2] w fun e w' => ∃ v, e = .returned v ∧ OI 2 w' B v (ranksL o n who inn goal) ∧ Below B w w' := by
  have HL := Lib.hid ha.len; have HK1 := Lib.hid hi.len; have HK2 := Lib.hid hg.len
  have hm0 : 0 < n0 := by have := hf.1; rw [HL.out] at this; omega
  have hm1 : n0 ≤ 256 := by have := hf.2.1; rw [HL.out] at this; omega
  have HSI := Lib.hid (show setB inn (n0 : Int) = true by rw [← HL.out]; exact hsi)
  have HSG := Lib.hid (show setB goal (n0 : Int) = true by rw [← HL.out]; exact hsg)
  have hkl1 : k1 ≤ 256 := by have := set_len HSI.out (by omega); rw [HK1.out] at this; omega
  have hkl2 : k2 ≤ 256 := by have := set_len HSG.out (by omega); rw [HK2.out] at this; omega
  have bi1 := hi.cap; have bi2 := hi.top; have bg1 := hg.cap; have bg2 := hg.top
  have HS := Lib.hid (show ranksL o n who inn goal = rankE o n who inn goal n0 by unfold ranksL; rw [HL.out])
  have HF := Lib.hid hf
  have hba : Below w.heap.size w (w.alloc (.cells #[.slice A0 n0 c0, .slice A1 n1 c1] 30)) := below_alloc (Nat.le_refl _) (Below.refl _ _)
  have bx := Box.new w 30 #[.slice A0 n0 c0, .slice A1 n1 c1]
  have q0 := bx.d0; have q1 := bx.d1
  clear hf hsi hsg
  go_enter Try.func118, Try.ntmps118
  go_wp2_with fail
  clear q0 q1
  refine (markOf _ _ _ _ _ _ _ _ _ inn _ _ (Nat.le_refl _) (hi.keep (keeps_below hba)) HSI.out (by omega)).mono ?_; rintro e w1 ⟨v1, rfl, hs, hb1⟩
  obtain ⟨gS, cS, rfl⟩ := hs.form2 (by rw [mkM_len]; exact hm0)
  rw [mkM_len] at hs ⊢
  replace bx := bx.below hb1 bx.lt
  have hw := below_then hb1 hba.size hba
  have hz1 : w.heap.size < w1.heap.size := bx.lt
  replace hs := hs.more (lo' := w.heap.size) (by simp)
  have hgS : gS < w1.heap.size := (hs.lt gS rfl).2
  have q0 := bx.d0; have q1 := bx.d1
  go_wp2_with (refine wpList_makeI rfl (.tmp 25) rfl _ n0 rfl (by omega) ?_; intro w2 ho hb2)
  clear q0 q1 hb1
  replace bx := bx.below hb2 bx.lt
  replace hs := hs.below hb2
  replace hw := below_then hb2 hw.size hw
  clear hb2
  generalize w1.heap.size = g8 at *
  go_loopw [29] (fun i wr => ∃ k : Nat, k ≤ n0 ∧ i = .int .i64 k ∧ OI 2 wr g8 (.slice (some ⟨g8, 0, none⟩) n0 n0) (fillUp (fun _ => -1) n0 (fun _ => 0) k) ∧ OB 4 wr w.heap.size (.slice (some ⟨gS, 0, none⟩) n0 cS) (mkM n0 inn) ∧ Box wr w.heap.size 30 #[.slice A0 n0 c0, .slice A1 n1 c1] ∧ Below w.heap.size w wr) (fun i _ => n0 - (intOf i).toNat)
  case atStart => exact ⟨0, Nat.zero_le _, rfl, by rw [fillUp_zero, ← fill_zeros]; exact ho, hs, bx, hw⟩
  case round =>
    clear ho hs bx hw
    obtain ⟨k, hk, rfl, ho, hs, bx, hw⟩ := hrel
    by_cases hlt : k < n0
    · have hcm := ho.cellAt (i := k) (by rw [fillUp_len]; exact hlt)
      have hfz := ho.hot (i := k) (by rw [fillUp_len])
      have HX := Lib.hid (fillUp_put (f := fun _ => -1) (g := fun _ => 0) hlt)
      go_wp2
      go_roundw
      case rel => exact ⟨k + 1, by omega, by go_num, by rw [← HX.out]; exact ho.set_ (by rw [fillUp_len]) (-1), hs.off (by show gS ≠ g8; omega) _, bx.far (by show w.heap.size ≠ g8; omega) _, below_set (by show w.heap.size ≤ g8; omega) hw⟩
      case measure => simp [intOf]; omega
    · obtain rfl : k = n0 := by omega
      rw [fillUp_full, ← hasFill_zero (goalF goal (mkM k inn)) (fun _ => -1) goal] at ho
      go_wp2
      go_loopw [38] (fun i wr => ∃ j : Nat, j ≤ k2 ∧ i = .int .i64 j ∧ OI 2 wr g8 (.slice (some ⟨g8, 0, none⟩) k k) (hasFill (goalF goal (mkM k inn)) (fun _ => -1) goal j k) ∧ OB 4 wr w.heap.size (.slice (some ⟨gS, 0, none⟩) k cS) (mkM k inn) ∧ Box wr w.heap.size 30 #[.slice A0 k c0, .slice A1 n1 c1] ∧ Below w.heap.size w wr) (fun i _ => k2 - (intOf i).toNat)
      case atStart => exact ⟨0, Nat.zero_le _, rfl, ho, hs, bx, hw⟩
      case round =>
        clear ho hs bx hw hlt hk
        obtain ⟨j, hj, rfl, ho, hs, bx, hw⟩ := hrel
        by_cases hjl : j < k2
        · obtain ⟨u, hu, hun⟩ := set_nat HSG.out (show j < goal.length by rw [HK2.out]; exact hjl)
          obtain ⟨bb, off, rfl, hc⟩ := (hg.keep (keeps_below hw)).at_ hjl
          have HU := Lib.hid hu
          rw [hu] at hc
          clear hu
          have hcs := hs.atx (i := u) (by rw [mkM_len]; exact hun)
          have hco := ho.cellAt (i := u) (by rw [hasFill_len]; exact hun)
          have hfo := ho.hot (i := u) (by rw [hasFill_len])
          have hui : (u : Int) < (k : Int) := by omega
          have hu0 : (0 : Int) ≤ (u : Int) := by omega
          cases hgb : gb (mkM k inn) u with
          | false =>
            rw [hgb] at hcs
            have HX := Lib.hid (hasFill_skip (f := goalF goal (mkM k inn)) (g := fun _ => -1) (n := k) (show j < goal.length by rw [HK2.out]; exact hjl) HU.out (by unfold goalF; rw [hgb]; rfl))
            clear hgb
            go_wp2
            go_roundw
            case rel => exact ⟨j + 1, by omega, by go_num, by rw [HX.out]; exact ho, hs, bx, hw⟩
            case measure => simp [intOf]; omega
          | true =>
            rw [hgb] at hcs
            have HX := Lib.hid (hasFill_step (f := goalF goal (mkM k inn)) (g := fun _ => -1) (n := k) (show j < goal.length by rw [HK2.out]; exact hjl) HU.out hun)
            have HV := Lib.hid (show goalF goal (mkM k inn) u = 0 by unfold goalF; rw [hgb]; rfl)
            clear hgb
            go_wp2
            go_roundw
            case rel => exact ⟨j + 1, by omega, by go_num, by rw [← HX.out, HV.out]; exact ho.set_ (by rw [hasFill_len]) 0, hs.off (by show gS ≠ g8; omega) _, bx.far (by show w.heap.size ≠ g8; omega) _, below_set (by show w.heap.size ≤ g8; omega) hw⟩
            case measure => simp [intOf]; omega
        · obtain rfl : j = k2 := by omega
          replace ho : OI 2 wr g8 (.slice (some ⟨g8, 0, none⟩) k k) (rnks o n who inn goal k 0) := by
            rw [hasFill_all (by rw [HK2.out]; omega)] at ho
            exact ho
          go_wp2
          go_loopg [14] (k + 1) (fun gk lv wr => ∃ (t : Nat) (R : List Int), lv = .int .i64 t ∧ R = rnks o n who inn goal k t ∧ t + negs R ≤ k ∧ negs R + 1 ≤ gk ∧ OI 2 wr g8 (.slice (some ⟨g8, 0, none⟩) k k) R ∧ OB 4 wr w.heap.size (.slice (some ⟨gS, 0, none⟩) k cS) (mkM k inn) ∧ Box wr w.heap.size 30 #[.slice A0 k c0, .slice A1 n1 c1] ∧ Below w.heap.size w wr)
          case atStart => exact ⟨0, _, rfl, rfl, by have := rnk0_negs o n who inn goal k; omega, by have := rnk0_negs o n who inn goal k; omega, ho, hs, bx, hw⟩
          case round =>
            clear ho hs bx hw hjl hj
            obtain ⟨t, R, rfl, hRt, hneg, hgk, ho, hs, bx, hw⟩ := hrel
            have hRl : R.length = k := by rw [hRt, rnks_len]
            have ht : t ≤ 256 := by omega
            have HRT := Lib.hid hRt; have HNEG := Lib.hid hneg; have HGK := Lib.hid hgk; have HRL := Lib.hid hRl
            clear hRt hneg hgk hRl
            obtain ⟨wl, rfl⟩ : ∃ wl : World, wl = wr := ⟨_, rfl⟩
            have hem := OI.empty (E := 2) (w := wl) (B := wl.heap.size) (Nat.le_refl _)
            have hbe : Below wl.heap.size wl (wl.alloc (.cells #[] 2)) := below_alloc (Nat.le_refl _) (Below.refl _ _)
            have hg8l : g8 < wl.heap.size := (ho.lt g8 rfl).2
            go_wp2
            go_loopw [15, 55] (fun x i wr => ∃ j : Nat, j ≤ k1 ∧ i = .int .i64 j ∧ OI 2 wr wl.heap.size x (fndUp o n who inn k R j) ∧ Below wl.heap.size wl wr) (fun _ i _ => k1 - (intOf i).toNat)
            case atStart => exact ⟨0, Nat.zero_le _, rfl, hem, hbe⟩
            case round =>
              clear hem hbe
              obtain ⟨j, hj, rfl, hx, hbr⟩ := hrel
              have hlen : (fndUp o n who inn k R j).length ≤ j := pick_len _ _ _
              have hsz := hbr.size
              have hwr := below_then hbr hw.size hw
              by_cases hjl : j < k1
              · obtain ⟨u, hu, hun⟩ := set_nat HSI.out (show j < inn.length by rw [HK1.out]; exact hjl)
                obtain ⟨bb, off, rfl, hc⟩ := (hi.keep (keeps_below hwr)).at_ hjl
                have HU := Lib.hid hu
                rw [hu] at hc
                clear hu
                have ho' := ho.below hbr
                have hs' := hs.below hbr
                have bx' := bx.below hbr bx.lt
                have hco := ho'.cellAt (i := u) (by rw [HRL.out]; exact hun)
                have hui : (u : Int) < (k : Int) := by omega
                have hu0 : (0 : Int) ≤ (u : Int) := by omega
                have q0 := bx'.d0; have q1 := bx'.d1
                by_cases hneg : gi R u < 0
                · have hdn : decide (gi R u < 0) = true := decide_eq_true hneg
                  have hcall := isPulled A0 A1 _ _ k c0 n1 c1 cS k o n who u (mkM k inn) R wr _ (Nat.le_refl _) (ha.keep (keeps_below hwr)) (hb.keep (keeps_below hwr)) hs'.reads ho'.reads HF.out hun
                  cases hpl : pulledB o n who (mkM k inn) R u with
                  | false =>
                    rw [hpl] at hcall
                    have HX := Lib.hid (show fndUp o n who inn k R (j + 1) = fndUp o n who inn k R j from pick_no (by rw [HU.out, Int.toNat_natCast]; unfold rnkC; rw [hpl, Bool.and_false]))
                    clear hpl
                    go_wp2_with fail
                    refine hcall.mono ?_; rintro e w4 ⟨rfl, hb4⟩
                    go_wp2
                    go_roundw
                    case rel => exact ⟨j + 1, by omega, by go_num, by rw [HX.out]; exact hx.below hb4, below_then hb4 hbr.size hbr⟩
                    case measure => simp [intOf]; omega
                  | true =>
                    rw [hpl] at hcall
                    have HX := Lib.hid (show fndUp o n who inn k R (j + 1) = fndUp o n who inn k R j ++ [(u : Int)] by rw [← HU.out]; exact pick_yes (by rw [HU.out, Int.toNat_natCast]; unfold rnkC; rw [hpl, decide_eq_true hneg]; rfl))
                    clear hpl
                    go_wp2_with fail
                    refine hcall.mono ?_; rintro e w4 ⟨rfl, hb4⟩
                    have hsz4 := hb4.size
                    go_wp2_with (at_builtin; refine wpList_pushI rfl (.tmp 72) (.tmp 74) rfl _ _ _ (fndUp o n who inn k R j) rfl (hx.below hb4) _ rfl (by omega) (by omega) ?_; intro v5 w5 ho5 hb5 hc5 hat5)
                    go_roundw
                    case rel => exact ⟨j + 1, by omega, by go_num, by rw [HX.out]; exact ho5, (below_then hb4 hbr.size hbr).trans hb5⟩
                    case measure => simp [intOf]; omega
                · have hdn : decide (gi R u < 0) = false := decide_eq_false hneg
                  have HX := Lib.hid (show fndUp o n who inn k R (j + 1) = fndUp o n who inn k R j from pick_no (by rw [HU.out, Int.toNat_natCast]; unfold rnkC; rw [hdn]; rfl))
                  go_wp2
                  go_roundw
                  case rel => exact ⟨j + 1, by omega, by go_num, by rw [HX.out]; exact hx, hbr⟩
                  case measure => simp [intOf]; omega
              · obtain rfl : j = k1 := by omega
                have HFD := Lib.hid (show fndUp o n who inn k R j = fndUp o n who inn k R inn.length by rw [HK1.out])
                rw [HFD.out] at hx hlen
                replace ho := ho.below hbr
                replace hs := hs.below hbr
                replace bx := bx.below hbr bx.lt
                obtain ⟨Ax, cx, rfl⟩ := hx.form
                generalize hfl : (fndUp o n who inn k R inn.length).length = fl at *
                have HFL := Lib.hid hfl
                clear hfl
                by_cases hz : fl = 0
                · subst hz
                  have HIS := Lib.hid (show isRnk o n who inn goal k R from ⟨t, HRT.out, fnd_end HFL.out⟩)
                  go_wp2
                  go_ret
                  exact ⟨_, rfl, by rw [HS.out, ← HIS.out.is]; exact ho.more (by omega), hwr.mono hB⟩
                · obtain ⟨gF, rfl⟩ : ∃ g, Ax = some ⟨g, 0, none⟩ := by
                    obtain ⟨g, c, e⟩ := hx.form2 (by rw [HFL.out]; omega)
                    injection e with e1 _ _
                    exact ⟨g, e1⟩
                  have hgF : wl.heap.size ≤ gF := (hx.lt gF rfl).1
                  have hzi : ((fl : Int) == 0) = false := by rw [beq_eq_false_iff_ne]; omega
                  have HNEW := Lib.hid (show negs (rnkS o n who inn (mkM k inn) R (t + 1) k) < negs R by
                    obtain ⟨u, _, h2, h3, h4⟩ := fnd_some (o := o) (n := n) (who := who) (R := R) HSI.out (j := 0) (by rw [HFL.out]; omega)
                    exact rnkS_negs HRL.out h2 h3 h4)
                  have HLF := Lib.hid (list_fill HRL.out)
                  rw [HLF.out, ← hasFill_zero (fun _ => ((t + 1 : Nat) : Int)) (gi R) (fndUp o n who inn k R inn.length)] at ho
                  have e1 : IntKind.i64.wrap ((t : Int) + 1) = (t : Int) + 1 := IntWalk.i64_in _ (by omega)
                  go_wp2
                  go_loopw [83] (fun i wq => ∃ q : Nat, q ≤ fl ∧ i = .int .i64 q ∧ OI 2 wq g8 (.slice (some ⟨g8, 0, none⟩) k k) (hasFill (fun _ => ((t + 1 : Nat) : Int)) (gi R) (fndUp o n who inn k R inn.length) q k) ∧ OI 2 wq wl.heap.size (.slice (some ⟨gF, 0, none⟩) fl cx) (fndUp o n who inn k R inn.length) ∧ OB 4 wq w.heap.size (.slice (some ⟨gS, 0, none⟩) k cS) (mkM k inn) ∧ Box wq w.heap.size 30 #[.slice A0 k c0, .slice A1 n1 c1] ∧ Below w.heap.size w wq) (fun i _ => fl - (intOf i).toNat)
                  case atStart => exact ⟨0, Nat.zero_le _, rfl, ho, hx, hs, bx, hwr⟩
                  case round =>
                    clear ho hx hs bx hwr hw hbr
                    obtain ⟨q, hq, rfl, ho, hx, hs, bx, hw⟩ := hrel
                    by_cases hql : q < fl
                    · obtain ⟨u, hu, hun, _, _⟩ := fnd_some (o := o) (n := n) (who := who) (R := R) HSI.out (j := q) (by rw [HFL.out]; exact hql)
                      have hcx := hx.cellAt (i := q) (by rw [HFL.out]; exact hql)
                      have HU := Lib.hid hu
                      rw [hu] at hcx
                      clear hu
                      have hco := ho.cellAt (i := u) (by rw [hasFill_len]; exact hun)
                      have hfo := ho.hot (i := u) (by rw [hasFill_len])
                      have hui : (u : Int) < (k : Int) := by omega
                      have hu0 : (0 : Int) ≤ (u : Int) := by omega
                      have HX := Lib.hid (hasFill_step (f := fun _ => ((t + 1 : Nat) : Int)) (g := gi R) (n := k) (show q < (fndUp o n who inn k R inn.length).length by rw [HFL.out]; exact hql) HU.out hun)
                      go_wp2
                      go_roundw
                      case rel => exact ⟨q + 1, by omega, by go_num, by rw [← HX.out]; exact ho.set_ (by rw [hasFill_len]) _, hx.off (by show gF ≠ g8; omega) _, hs.off (by show gS ≠ g8; omega) _, bx.far (by show w.heap.size ≠ g8; omega) _, below_set (by show w.heap.size ≤ g8; omega) hw⟩
                      case measure => simp [intOf]; omega
                    · obtain rfl : q = fl := by omega
                      rw [hasFill_all (by rw [HFL.out]; omega), fnd_all] at ho
                      go_wp2
                      go_roundg (negs (rnkS o n who inn (mkM k inn) R (t + 1) k) + 1)
                      case rel => exact ⟨t + 1, _, by go_num, by rw [rnks, ← HRT.out], by have := HNEW.out; have := HNEG.out; omega, Nat.le_refl _, ho, hs, bx, hw⟩
                      case measure => have := HNEW.out; have := HGK.out; omega

end Go.Proofs.Ytlmhhnplacejkaa
namespace Go.Proofs.Ytlmhhnplacejkaa
open Go.RowKit


theorem fill_eq {f g : Nat → Int} {n : Nat} (h : ∀ v, v < n → f v = g v) : fill f n = fill g n := gi_ext (by rw [fill_len, fill_len]) fun j hj => by
  rw [fill_len] at hj
  rw [fill_at hj, fill_at hj, h j hj]
theorem goal_fill {goal : List Int} {ins : List Bool} {m : Nat} : fill (fun v => if hasL goal (v : Int) = true then goalF goal ins v else -1) m = rnk0 ins goal m := rfl

set_option maxRecDepth 100000 in
set_option maxHeartbeats 3200000 in
theorem l3Ranks (A0 A1 C1 C2 : Option Addr) (n0 c0 n1 c1 k1 d1 k2 d2 : Nat) (o : List Int) (n : List (List Int)) (who : Int) (inn goal : List Int) (w : World) (B : Nat) (hB : B ≤ w.heap.size) (ha : RI w A0 n0 c0 o) (hb : RII w A1 n1 c1 n) (hi : RI w C1 k1 d1 inn) (hg : RI w C2 k2 d2 goal) (hf : fineAr o n) (hsi : setB inn o.length = true) (hsg : setB goal o.length = true) :
    Calls Try.prog 181 #[.agg #[.slice A0 n0 c0, .slice A1 n1 c1], .int .i64 who, .slice C1 k1 d1, .slice C2 k2 d2] w fun e w' => ∃ v, e = .returned v ∧ OI 2 w' B v (ranksL o n who inn goal) ∧ Below B w w' := by
  have ba1 := ha.cap; have ba2 := ha.top
  have HL := Lib.hid ha.len; have HK1 := Lib.hid hi.len; have HK2 := Lib.hid hg.len
  have hm0 : 0 < n0 := by have := hf.1; rw [HL.out] at this; omega
  have hm1 : n0 ≤ 256 := by have := hf.2.1; rw [HL.out] at this; omega
  have HSI := Lib.hid (show setB inn (n0 : Int) = true by rw [← HL.out]; exact hsi)
  have HSG := Lib.hid (show setB goal (n0 : Int) = true by rw [← HL.out]; exact hsg)
  have hkl1 : k1 ≤ 256 := by have := set_len HSI.out (by omega); rw [HK1.out] at this; omega
  have hkl2 : k2 ≤ 256 := by have := set_len HSG.out (by omega); rw [HK2.out] at this; omega
  have bi1 := hi.cap; have bi2 := hi.top; have bg1 := hg.cap; have bg2 := hg.top
  have HS := Lib.hid (show ranksL o n who inn goal = rankE o n who inn goal n0 by unfold ranksL; rw [HL.out])
  have HF := Lib.hid hf
  have hba : Below w.heap.size w (w.alloc (.cells #[.slice A0 n0 c0, .slice A1 n1 c1] 30)) := below_alloc (Nat.le_refl _) (Below.refl _ _)
  have bx := Box.new w 30 #[.slice A0 n0 c0, .slice A1 n1 c1]
  have q0 := bx.d0; have q1 := bx.d1
  clear hf hsi hsg
  go_enter Try.func181, Try.ntmps181
  go_wp2_with fail
  clear q0 q1
  refine (l1Marks n0 _ _ _ inn _ _ (Nat.le_refl _) (hi.keep (keeps_below hba)) HSI.out (by omega)).mono ?_; rintro e w1 ⟨v1, rfl, hs, hb1⟩
  obtain ⟨gS, cS, rfl⟩ := hs.form2 (by rw [mkM_len]; exact hm0)
  rw [mkM_len] at hs ⊢
  replace bx := bx.below hb1 bx.lt
  have hw := below_then hb1 hba.size hba
  have hz1 : w.heap.size < w1.heap.size := bx.lt
  have hem := OI.empty (E := 2) (w := w1) (B := w1.heap.size) (Nat.le_refl _)
  have hbe : Below w1.heap.size w1 (w1.alloc (.cells #[] 2)) := below_alloc (Nat.le_refl _) (Below.refl _ _)
  clear hb1 hba
  go_wp2
  go_loopw [11, 12] (fun x i wr => ∃ k : Nat, k ≤ n0 ∧ i = .int .i64 k ∧ OI 2 wr w1.heap.size x (fill (fun _ => -1) k) ∧ Below w1.heap.size w1 wr) (fun _ i _ => n0 - (intOf i).toNat)
  case atStart => exact ⟨0, Nat.zero_le _, rfl, hem, hbe⟩
  case round =>
    clear hem hbe
    obtain ⟨k, hk, rfl, hx, hbr⟩ := hrel
    have hlen := fill_len (fun _ => (-1 : Int)) k
    have hle : (fill (fun _ => (-1 : Int)) k).length ≤ 256 := by omega
    have HX := Lib.hid (fill_succ (fun _ => (-1 : Int)) k)
    have hsz := hbr.size
    clear hlen
    by_cases hlt : k < n0
    · have hki : (k : Int) < (n0 : Int) := by omega
      go_wp2_with (at_builtin; refine wpList_pushI rfl (.tmp 29) (.tmp 30) rfl _ _ _ (fill (fun _ => -1) k) rfl hx _ rfl (by omega) hsz ?_; intro v5 w5 ho5 hb5 hc5 hat5)
      go_roundw
      case rel => exact ⟨k + 1, by omega, by go_num, by rw [HX.out]; exact ho5, hbr.trans hb5⟩
      case measure => simp [intOf]; omega
    · obtain rfl : k = n0 := by omega
      obtain ⟨g8, c8, rfl⟩ := hx.form2 (by rw [fill_len]; exact hm0)
      rw [fill_len] at hx ⊢
      have hg8 : w1.heap.size ≤ g8 := (hx.lt g8 rfl).1
      rw [← hasFill_zero (goalF goal (mkM k inn)) (fun _ => -1) goal] at hx
      go_wp2
      go_loopw [13] (fun i wr => ∃ j : Nat, j ≤ k2 ∧ i = .int .i64 j ∧ OI 2 wr w1.heap.size (.slice (some ⟨g8, 0, none⟩) k c8) (hasFill (goalF goal (mkM k inn)) (fun _ => -1) goal j k) ∧ Below w1.heap.size w1 wr) (fun i _ => k2 - (intOf i).toNat)
      case atStart => exact ⟨0, Nat.zero_le _, rfl, hx, hbr⟩
      case round =>
        clear hx hbr hlt hk hsz hle
        obtain ⟨j, hj, rfl, ho, hbr⟩ := hrel
        have hwr := below_then hbr hw.size hw
        by_cases hjl : j < k2
        · obtain ⟨u, hu, hun⟩ := set_nat HSG.out (show j < goal.length by rw [HK2.out]; exact hjl)
          obtain ⟨bb, off, rfl, hc⟩ := (hg.keep (keeps_below hwr)).at_ hjl
          have HU := Lib.hid hu
          rw [hu] at hc
          clear hu
          have hcs := (hs.below hbr).atx (i := u) (by rw [mkM_len]; exact hun)
          have hco := ho.cellAt (i := u) (by rw [hasFill_len]; exact hun)
          have hfo := ho.hot (i := u) (by rw [hasFill_len])
          have hui : (u : Int) < (k : Int) := by omega
          have hu0 : (0 : Int) ≤ (u : Int) := by omega
          have hji : (j : Int) < (k2 : Int) := by omega
          cases hgb : gb (mkM k inn) u with
          | false =>
            rw [hgb] at hcs
            have HX2 := Lib.hid (hasFill_skip (f := goalF goal (mkM k inn)) (g := fun _ => -1) (n := k) (show j < goal.length by rw [HK2.out]; exact hjl) HU.out (by unfold goalF; rw [hgb]; rfl))
            clear hgb
            go_wp2
            go_roundw
            case rel => exact ⟨j + 1, by omega, by go_num, by rw [HX2.out]; exact ho, hbr⟩
            case measure => simp [intOf]; omega
          | true =>
            rw [hgb] at hcs
            have HX2 := Lib.hid (hasFill_step (f := goalF goal (mkM k inn)) (g := fun _ => -1) (n := k) (show j < goal.length by rw [HK2.out]; exact hjl) HU.out hun)
            have HV := Lib.hid (show goalF goal (mkM k inn) u = 0 by unfold goalF; rw [hgb]; rfl)
            clear hgb
            go_wp2
            go_roundw
            case rel => exact ⟨j + 1, by omega, by go_num, by rw [← HX2.out, HV.out]; exact ho.set_ (by rw [hasFill_len]) 0, below_set (by show w1.heap.size ≤ g8; omega) hbr⟩
            case measure => simp [intOf]; omega
        · obtain rfl : j = k2 := by omega
          replace ho : OI 2 wr w1.heap.size (.slice (some ⟨g8, 0, none⟩) k c8) (rnks o n who inn goal k 0) := by
            rw [hasFill_all (by rw [HK2.out]; omega)] at ho
            exact ho
          go_wp2
          go_loopw [11, 14] (fun x i wr => ∃ (t : Nat) (R : List Int), i = .int .i64 ((t + 1 : Nat) : Int) ∧ t ≤ k ∧ R = rnks o n who inn goal k t ∧ t + negs R ≤ k ∧ OI 2 wr w1.heap.size x R ∧ Below w1.heap.size w1 wr) (fun _ i _ => k + 1 - (intOf i).toNat)
          case atStart => exact ⟨0, _, rfl, Nat.zero_le _, rfl, by have := rnk0_negs o n who inn goal k; omega, ho, hbr⟩
          case round =>
            clear ho hbr hwr hjl hj
            obtain ⟨t, R, rfl, ht, hRt, hneg, ho, hbr⟩ := hrel
            obtain ⟨wl, rfl⟩ : ∃ wl : World, wl = wr := ⟨_, rfl⟩
            have hRl : R.length = k := by rw [hRt, rnks_len]
            have HRT := Lib.hid hRt; have HNEG := Lib.hid hneg; have HRL := Lib.hid hRl
            have HTOP := Lib.hid (show ∀ u, gi R u ≤ 256 from fun u => by rw [hRt]; exact rnks_all (by omega) u)
            clear hRt hneg
            have hwr := below_then hbr hw.size hw
            obtain ⟨gR, cR, rfl⟩ := ho.form2 (by omega)
            rw [hRl] at ho ⊢
            clear hRl
            have hgR : w1.heap.size ≤ gR ∧ gR < wl.heap.size := ho.lt gR rfl
            obtain ⟨hgR1, hgR2⟩ := hgR
            by_cases htk : t < k
            · have hti : (((t + 1 : Nat) : Int)) ≤ (k : Int) := by omega
              have hco := l1Copy (some ⟨gR, 0, none⟩) k cR R wl _ (Nat.le_refl _) ho.reads (by omega)
              go_wp2_with fail
              refine hco.mono ?_; clear hco; rintro e w3 ⟨v3, rfl, hm, hb3⟩
              obtain ⟨gM, cM, rfl⟩ := hm.form2 (by rw [HRL.out]; exact hm0)
              rw [HRL.out] at hm ⊢
              have hgM : wl.heap.size ≤ gM := (hm.lt gM rfl).1
              have HLF := Lib.hid (list_fill HRL.out)
              rw [HLF.out, ← hasFill_zero (fun v => if rnkC o n who (mkM k inn) R v = true then ((t + 1 : Nat) : Int) else gi R v) (gi R) inn] at hm
              go_wp2
              go_loopw [16] (fun i wr => ∃ j : Nat, j ≤ k1 ∧ i = .int .i64 j ∧ OI 2 wr wl.heap.size (.slice (some ⟨gM, 0, none⟩) k cM) (hasFill (fun v => if rnkC o n who (mkM k inn) R v = true then ((t + 1 : Nat) : Int) else gi R v) (gi R) inn j k) ∧ Below wl.heap.size wl wr) (fun i _ => k1 - (intOf i).toNat)
              case atStart => exact ⟨0, Nat.zero_le _, rfl, hm, hb3⟩
              case round =>
                clear hm hb3
                obtain ⟨j, hj, rfl, hm, hb4⟩ := hrel
                have hbw := below_then hb4 hbr.size hbr
                have hw4 := below_then hbw hw.size hw
                have ho4 := ho.below hb4
                by_cases hjl : j < k1
                · obtain ⟨u, hu, hun⟩ := set_nat HSI.out (show j < inn.length by rw [HK1.out]; exact hjl)
                  obtain ⟨bb, off, rfl, hc⟩ := (hi.keep (keeps_below hw4)).at_ hjl
                  have HU := Lib.hid hu
                  have HIN := Lib.hid (hasL_gi (show j < inn.length by rw [HK1.out]; exact hjl) hu)
                  rw [hu] at hc
                  clear hu
                  have hs4 := hs.below hbw
                  have bx4 := bx.below hbw bx.lt
                  have hcR := ho4.cellAt (i := u) (by rw [HRL.out]; exact hun)
                  have hui : (u : Int) < (k : Int) := by omega
                  have hu0 : (0 : Int) ≤ (u : Int) := by omega
                  have hji : (j : Int) < (k1 : Int) := by omega
                  have hj0 : (0 : Int) ≤ (j : Int) := by omega
                  have q0 := bx4.d0; have q1 := bx4.d1
                  by_cases hneg : gi R u < 0
                  · have hdn : decide (gi R u < 0) = true := decide_eq_true hneg
                    have HEQ := Lib.hid (show (rankV o n who (mkM k inn) R u == (t : Int) + 1) = pulledB o n who (mkM k inn) R u by
                      rw [HRT.out] at hneg ⊢
                      have hset := (HF.out.2.2.2 u (by rw [HL.out]; exact hun)).2.2
                      rw [HL.out] at hset
                      have h9 := rank_eq hset hun HIN.out hneg
                      rw [show ((t + 1 : Nat) : Int) = (t : Int) + 1 by omega] at h9
                      exact h9)
                    have hra := ha.keep (keeps_below hw4)
                    have hrb := hb.keep (keeps_below hw4)
                    have hsr := hs4.reads
                    have hor := ho4.reads
                    have HRV := Lib.hid (show rnkC o n who (mkM k inn) R u = pulledB o n who (mkM k inn) R u by unfold rnkC; rw [hdn]; rfl)
                    go_wp2_with fail
                    go_region_held3 (fun w' => w'.cell? ⟨w.heap.size, 0, none⟩ = some (.slice A0 k c0) ∧ w'.cell? ⟨w.heap.size, 1, none⟩ = some (.slice A1 n1 c1) ∧ w'.cell? ⟨bb, off + j, none⟩ = some (.int .i64 (u : Int)) ∧ w'.cell? ⟨gR, u, none⟩ = some (.int .i64 (gi R u)))
                      (refine ⟨?_, ?_, ?_, ?_⟩ <;> repeat (first | with_reducible assumption | with_reducible refine keepD ?_ | with_reducible refine keepA ?_))
                      (first
                        | (go_at_call 213
                           refine (l3Rank A0 A1 _ _ k c0 n1 c1 _ _ o n who u (mkM k inn) R _ _ (Nat.le_refl _) (by exact hra) (by exact hrb) (by exact hsr) (by exact hor) HF.out hun HTOP.out).mono ?_
                           rintro e w5 ⟨rfl, hb5⟩
                           replace hb5 := below_undrew hb5
                           have K := keeps_below hb5
                           have q50 := K _ _ q0
                           have q51 := K _ _ q1
                           have q52 := K _ _ hc
                           have q53 := K _ _ hcR
                           clear K))
                    all_goals
                      have hb6 := below_then hb5 hb4.size hb4
                      have hm5 := hm.below hb5
                      have hcm := hm5.cellAt (i := u) (by rw [hasFill_len]; exact hun)
                      have hfm := hm5.hot (i := u) (by rw [hasFill_len])
                      clear q0 q1 hc hcR
                      generalize hrv : (rankV o n who (mkM k inn) R u == (t : Int) + 1) = bb2 at *
                      clear hrv
                      cases bb2 with
                      | true =>
                        have HX2 := Lib.hid (hasFill_step (f := fun v => if rnkC o n who (mkM k inn) R v = true then ((t + 1 : Nat) : Int) else gi R v) (g := gi R) (n := k) (show j < inn.length by rw [HK1.out]; exact hjl) HU.out hun)
                        have HV := Lib.hid (show (if rnkC o n who (mkM k inn) R u = true then ((t + 1 : Nat) : Int) else gi R u) = ((t + 1 : Nat) : Int) from if_pos (by rw [HRV.out, ← HEQ.out]))
                        go_wp2
                        go_roundw
                        case rel => exact ⟨j + 1, by omega, by go_num, by rw [← HX2.out, HV.out]; exact hm5.set_ (by rw [hasFill_len]) _, below_set (by show wl.heap.size ≤ gM; omega) hb6⟩
                        case measure => simp [intOf]; omega
                      | false =>
                        have HX2 := Lib.hid (hasFill_skip (f := fun v => if rnkC o n who (mkM k inn) R v = true then ((t + 1 : Nat) : Int) else gi R v) (g := gi R) (n := k) (show j < inn.length by rw [HK1.out]; exact hjl) HU.out (if_neg (by rw [HRV.out, ← HEQ.out]; simp)))
                        go_wp2
                        go_roundw
                        case rel => exact ⟨j + 1, by omega, by go_num, by rw [HX2.out]; exact hm5, hb6⟩
                        case measure => simp [intOf]; omega
                  · have hdn : decide (gi R u < 0) = false := decide_eq_false hneg
                    have HX2 := Lib.hid (hasFill_skip (f := fun v => if rnkC o n who (mkM k inn) R v = true then ((t + 1 : Nat) : Int) else gi R v) (g := gi R) (n := k) (show j < inn.length by rw [HK1.out]; exact hjl) HU.out (if_neg (by unfold rnkC; rw [hdn]; simp)))
                    go_wp2
                    go_quiet (fail)
                    go_wp2
                    go_roundw
                    case rel => exact ⟨j + 1, by omega, by go_num, by rw [HX2.out]; exact hm.drewN _, below_drewN hb4 _⟩
                    case measure => simp [intOf]; omega
                · obtain rfl : j = k1 := by omega
                  replace hm : OI 2 wr wl.heap.size (.slice (some ⟨gM, 0, none⟩) k cM) (rnks o n who inn goal k (t + 1)) := by
                    rw [hasFill_all (by rw [HK1.out]; omega)] at hm
                    rw [rnks, ← HRT.out]
                    exact hm
                  have hR2l := rnks_len o n who inn goal k (t + 1)
                  have hcm := l1Same _ _ _ _ _ _ _ _ wr hm.reads ho4.reads
                  by_cases hsame : rnks o n who inn goal k (t + 1) = R
                  · rw [show eqL (rnks o n who inn goal k (t + 1)) R = true from decide_eq_true hsame] at hcm
                    have HIS := Lib.hid (show isRnk o n who inn goal k R from ⟨t, HRT.out, by rw [rnks, ← HRT.out] at hsame; exact rnkS_new hsame⟩)
                    clear hsame hR2l
                    go_wp2_with fail
                    refine hcm.mono ?_; rintro e w5 ⟨rfl, q5, rfl⟩
                    go_wp2
                    go_ret
                    exact ⟨_, rfl, by rw [HS.out, ← HIS.out.is]; exact (ho4.drewN q5).more (by omega), below_drewN (hw4.mono hB) _⟩
                  · rw [show eqL (rnks o n who inn goal k (t + 1)) R = false from decide_eq_false hsame] at hcm
                    have HNEW := Lib.hid (show negs (rnks o n who inn goal k (t + 1)) < negs R by
                      have hx : ∃ v, v < k ∧ hasL inn (v : Int) = true ∧ rnkC o n who (mkM k inn) R v = true := by
                        refine Classical.byContradiction fun hne => hsame ?_
                        rw [rnks, ← HRT.out]
                        refine rnkS_end HRL.out (fun v hv hi => ?_) _
                        cases hc : rnkC o n who (mkM k inn) R v with
                        | false => rfl
                        | true => exact absurd ⟨v, hv, hi, hc⟩ hne
                      obtain ⟨v, hv, hi, hc⟩ := hx
                      rw [rnks, ← HRT.out]
                      exact rnkS_negs HRL.out hv hi hc)
                    clear hsame hR2l
                    go_wp2_with fail
                    refine hcm.mono ?_; rintro e w5 ⟨rfl, q5, rfl⟩
                    go_wp2
                    go_roundw
                    case rel => exact ⟨t + 1, _, by go_num, by omega, rfl, by have := HNEW.out; have := HNEG.out; omega, (hm.drewN q5).more (by omega), below_drewN hbw _⟩
                    case measure => simp [intOf]; omega
            · obtain rfl : t = k := by omega
              have HIS := Lib.hid (show isRnk o n who inn goal t R from ⟨t, HRT.out, rnkEnd_full HRL.out (by have := HNEG.out; omega)⟩)
              have hti : ¬ (((t + 1 : Nat) : Int)) ≤ (t : Int) := by omega
              go_wp2
              go_ret
              exact ⟨_, rfl, by rw [HS.out, ← HIS.out.is]; exact ho.more (by omega), hwr.mono hB⟩
end Go.Proofs.Ytlmhhnplacejkaa
