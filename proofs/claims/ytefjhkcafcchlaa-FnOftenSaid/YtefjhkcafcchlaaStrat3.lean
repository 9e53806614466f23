/- Who meets a goal again and again and who leaves it for good, in plain words. No function of the program is named here. -/
import Derived.Test.YtefjhkcafcchlaaStrat
import Derived.Test.YtefjhkcafcchlaaLevP
import Derived.Test.YtefjhkcafcchlaaOftPlanP
namespace Go.Proofs.Ytefjhkcafcchlaa
open Go.RowKit

section
variable {o : List Int} {n : List (List Int)} {who : Int} {goal : List Int}
/-! ### to be at a goal again and again -/
theorem oft_shut (hf : fineAr o n) : shut o n who (oftL o n who goal) := by
  obtain ⟨k, e, _⟩ := oftL_is o n who goal
  rw [e]
  exact oftS_shut hf who goal k
theorem oft_rank (hf : fineAr o n) {v : Nat} (hv : v < o.length) (hz : (v : Int) ∈ oftL o n who goal) : 0 ≤ gi (ranksL o n who (oftL o n who goal) goal) v := rank_oft hf hv ((mkM_iff hv).2 hz)
theorem oft_step (hf : fineAr o n) (hw : 0 ≤ who ∧ who ≤ 1) {q : List Int} (hq : fullP o n (1 - who) q) {v : Nat} (hv : v < o.length) (hz : (v : Int) ∈ oftL o n who goal) :
    ((stepN o n who (oftPlanL o n who goal) q v : Nat) : Int) ∈ oftL o n who goal ∧ ∀ k : Nat, gi (ranksL o n who (oftL o n who goal) goal) v = ((k + 1 : Nat) : Int) → gi (ranksL o n who (oftL o n who goal) goal) (stepN o n who (oftPlanL o n who goal) q v) ≤ (k : Int) := by
  have hpf : fineP o n who (oftPlanL o n who goal) := planL_fine hf _ _
  have nxt : ∀ i, i < (gl n v).length → (gi (gl n v) i).toNat < o.length := fun i hi => (row_nat hf hv hi).1
  obtain ⟨h1, h2, h3⟩ := step_is hf hw hpf hq hv
  obtain ⟨i, hi, e⟩ := has_row h2
  have hsh := oft_shut (who := who) (goal := goal) hf v hv hz
  have hgv := (mkM_iff hv).2 hz
  by_cases own : gi o v = who
  · have hval : gi (oftPlanL o n who goal) v = firstU (oftA (mkM o.length (oftL o n who goal)) (ranksL o n who (oftL o n who goal) goal) v) (gl n v) (gl n v).length := by
      unfold oftPlanL planL
      rw [fill_at hv]
      unfold leastV
      rw [if_pos ⟨hgv, own⟩]
    have hex : ∃ j, j < (gl n v).length ∧ oftA (mkM o.length (oftL o n who goal)) (ranksL o n who (oftL o n who goal) goal) v (gi (gl n v) j).toNat = true := by
      by_cases h0 : gi (ranksL o n who (oftL o n who goal) goal) v = 0
      · obtain ⟨j, hj, hg⟩ := (intoB_mine own).1 hsh
        exact ⟨j, hj, by unfold oftA; rw [hg, h0]; simp⟩
      · have hr := oft_rank hf hv hz
        obtain ⟨k, hk⟩ : ∃ k : Nat, gi (ranksL o n who (oftL o n who goal) goal) v = ((k + 1 : Nat) : Int) := ⟨(gi (ranksL o n who (oftL o n who goal) goal) v).toNat - 1, by omega⟩
        obtain ⟨j, hj, hg, hr⟩ := (rank_step hv hk hf).1 own
        exact ⟨j, hj, by unfold oftA; rw [hg, hr, hk]; simp⟩
    have a := firstU_some (al := oftA (mkM o.length (oftL o n who goal)) (ranksL o n who (oftL o n who goal) goal) v) (row_nonneg hf hv) hex
    have b := firstU_is a
    have c := h3 own (by rw [hval]; exact a)
    rw [hval] at c
    rw [← c, Int.toNat_natCast] at b
    unfold oftA at b
    rw [Bool.and_eq_true, Bool.or_eq_true] at b
    refine ⟨(mkM_iff h1).1 b.1, fun k hk => ?_⟩
    rw [hk] at b
    rcases b.2 with b2 | b2
    · have : ((k + 1 : Nat) : Int) = 0 := by simpa using b2
      omega
    · have : gi (ranksL o n who (oftL o n who goal) goal) (stepN o n who (oftPlanL o n who goal) q v) = ((k + 1 : Nat) : Int) - 1 := by simpa using b2
      omega
  · have hg := (intoB_yours own).1 hsh i hi
    refine ⟨?_, fun k hk => ?_⟩
    · rw [e, Int.toNat_natCast] at hg
      exact (mkM_iff h1).1 hg
    · have := ((rank_step hv hk hf).2 own i hi hg).2
      rwa [e, Int.toNat_natCast] at this
theorem oft_meets (hf : fineAr o n) (hw : 0 ≤ who ∧ who ≤ 1) {q : List Int} (hq : fullP o n (1 - who) q) : ∀ (k v : Nat), v < o.length → (v : Int) ∈ oftL o n who goal → gi (ranksL o n who (oftL o n who goal) goal) v = (k : Int) → ∃ i, (itr (stepN o n who (oftPlanL o n who goal) q) v i : Int) ∈ goal := by
  intro k
  induction k using Nat.strongRecOn with
  | ind k ih =>
    intro v hv hz hk
    cases k with
    | zero => exact ⟨0, rank_zero (n := n) (who := who) (inn := oftL o n who goal) hv hk⟩
    | succ k =>
      obtain ⟨s1, s2⟩ := oft_step hf hw hq hv hz
      have hl := (step_is (who := who) (p := oftPlanL o n who goal) hf hw (planL_fine hf _ _) hq hv).1
      have h0 := oft_rank hf hl s1
      have h1 := s2 k hk
      obtain ⟨k', hk'⟩ := Int.eq_ofNat_of_zero_le h0
      obtain ⟨i, hi⟩ := ih k' (by omega) _ hl s1 hk'
      exact ⟨i + 1, by rw [← itr_shift]; exact hi⟩
theorem oft_play (hf : fineAr o n) (hw : 0 ≤ who ∧ who ≤ 1) {q : List Int} (hq : fullP o n (1 - who) q) {v : Nat} (hv : v < o.length) (hz : (v : Int) ∈ oftL o n who goal) (i : Nat) : (itr (stepN o n who (oftPlanL o n who goal) q) v i : Int) ∈ oftL o n who goal := by
  induction i with
  | zero => exact hz
  | succ i ih => exact (oft_step hf hw hq (itr_lt (who := who) (p := oftPlanL o n who goal) hf hw (planL_fine hf _ _) hq hv i) ih).1
/-- the loop of a play by the plan meets the goal -/
theorem oft_loop (hf : fineAr o n) (hw : 0 ≤ who ∧ who ≤ 1) {q : List Int} (hq : fullP o n (1 - who) q) {v : Nat} (hv : v < o.length) (hz : (v : Int) ∈ oftL o n who goal) {st lp : List Int} (hp : isPlay (stepN o n who (oftPlanL o n who goal) q) v st lp) : meetB goal lp = true := by
  obtain ⟨a, h1, _, _⟩ := play_loop hp
  have hl := itr_lt (who := who) (p := oftPlanL o n who goal) hf hw (planL_fine hf _ _) hq hv a
  have hm := oft_play hf hw hq hv hz a
  obtain ⟨k, hk⟩ := Int.eq_ofNat_of_zero_le (oft_rank hf hl hm)
  obtain ⟨i, hi⟩ := oft_meets hf hw hq k _ hl hm hk
  rw [itr_add] at hi
  exact decide_eq_true ⟨_, hi, h1 i⟩

/-! ### to leave a goal for good -/
theorem planV_pos (hf : fineAr o n) {s : List Int} {v : Nat} (hv : v < o.length) (h0 : 0 ≤ gi (levelsL o n who s) v) (own : gi o v = who) : 0 ≤ planV o n who (levelsL o n who s) v := by
  obtain ⟨T, hT, hend⟩ : isLvl o n who (mkM o.length s) o.length (levelsL o n who s) := by
    obtain ⟨r, h⟩ := lvlE_ex o n who (mkM o.length s) o.length
    unfold levelsL
    rw [← h.is]; exact h
  obtain ⟨l, hl⟩ := Int.eq_ofNat_of_zero_le h0
  have hl' := hl
  rw [hT] at hl'
  obtain ⟨hlT, hR, hneg⟩ := lvls_at hv hl'
  have hkept := gfp_closed (by simp) hv hR
  have low : ∀ u, u < o.length → gb (lowM (lvls o n who (mkM o.length s) o.length l)) u = true → 0 ≤ gi (levelsL o n who s) u ∧ gi (levelsL o n who s) u < (l : Int) := fun u hu h => by rw [hT]; exact lvls_low hu hlT h
  have inn : ∀ u, u < o.length → gb (lvlSet o n who (mkM o.length s) o.length (lvls o n who (mkM o.length s) o.length l)) u = true → 0 ≤ gi (levelsL o n who s) u ∧ gi (levelsL o n who s) u ≤ (l : Int) := fun u hu h => by rw [hT]; exact lvls_in hu hlT h
  have nxt : ∀ i, i < (gl n v).length → (gi (gl n v) i).toNat < o.length := fun i hi => (row_nat hf hv hi).1
  have hLL : (levelsL o n who s).length = o.length := levelsL_len _ _ _ _
  have hlow : gb (lowM (levelsL o n who s)) v = true := by rw [lowM_at (by rw [hLL]; exact hv)]; exact decide_eq_true h0
  have e1 : leastV o n who (lowM (levelsL o n who s)) (alLess (levelsL o n who s)) v = firstU (alLess (levelsL o n who s) v) (gl n v) (gl n v).length := by unfold leastV; rw [if_pos ⟨hlow, own⟩]
  have e2 : leastV o n who (lowM (levelsL o n who s)) (alSame (levelsL o n who s)) v = firstU (alSame (levelsL o n who s) v) (gl n v) (gl n v).length := by unfold leastV; rw [if_pos ⟨hlow, own⟩]
  have hex : ∃ j, j < (gl n v).length ∧ 0 ≤ gi (levelsL o n who s) (gi (gl n v) j).toNat ∧ gi (levelsL o n who s) (gi (gl n v) j).toNat ≤ (l : Int) := by
    unfold keptL at hkept
    rw [Bool.or_eq_true, Bool.and_eq_true] at hkept
    rcases hkept with h | ⟨_, h⟩
    · obtain ⟨j, hj, hg⟩ := (intoB_mine own).1 h
      have := low _ (nxt j hj) hg
      exact ⟨j, hj, this.1, by omega⟩
    · obtain ⟨j, hj, hg⟩ := (intoB_mine own).1 h
      exact ⟨j, hj, inn _ (nxt j hj) hg⟩
  unfold planV
  rw [e1, e2]
  split
  · rename_i hneg1
    obtain ⟨j, hj, b0, b1⟩ := hex
    refine firstU_some (row_nonneg hf hv) ⟨j, hj, ?_⟩
    unfold alSame
    by_cases e : gi (levelsL o n who s) (gi (gl n v) j).toNat = gi (levelsL o n who s) v
    · simp [e]
    · exfalso
      have := firstU_some (al := alLess (levelsL o n who s) v) (row_nonneg hf hv) ⟨j, hj, by
        unfold alLess
        rw [lowM_at (by rw [hLL]; exact nxt j hj), decide_eq_true b0, Bool.true_and]
        exact decide_eq_true (by omega)⟩
      omega
  · omega
theorem planF_fine (hf : fineAr o n) (L : List Int) : fineP o n who (fill (planV o n who L) o.length) :=
  ⟨fill_len _ _, fun v hv => by
    rw [fill_at hv]
    unfold planV
    split
    · exact least_fine hf hv
    · exact least_fine hf hv⟩
theorem lvl_step (hf : fineAr o n) (hw : 0 ≤ who ∧ who ≤ 1) {s q : List Int} (hq : fullP o n (1 - who) q) {v : Nat} (hv : v < o.length) (h0 : 0 ≤ gi (levelsL o n who s) v) :
    0 ≤ gi (levelsL o n who s) (stepN o n who (fill (planV o n who (levelsL o n who s)) o.length) q v) ∧ gi (levelsL o n who s) (stepN o n who (fill (planV o n who (levelsL o n who s)) o.length) q v) ≤ gi (levelsL o n who s) v ∧ (gi (levelsL o n who s) (stepN o n who (fill (planV o n who (levelsL o n who s)) o.length) q v) = gi (levelsL o n who s) v → hasL s (v : Int) = true) := by
  obtain ⟨h1, h2, h3⟩ := step_is hf hw (planF_fine (who := who) hf (levelsL o n who s)) hq hv
  obtain ⟨i, hi, e⟩ := has_row h2
  have hlaw := levels_law (s := s) hf hv hi h0 (fun own => by
    have hp := planV_pos hf hv h0 own
    have := h3 own (by rw [fill_at hv]; exact hp)
    rw [fill_at hv] at this
    rw [← this, ← e])
  rw [e, Int.toNat_natCast] at hlaw
  exact hlaw
theorem lvl_play (hf : fineAr o n) (hw : 0 ≤ who ∧ who ≤ 1) {s q : List Int} (hq : fullP o n (1 - who) q) {v : Nat} (hv : v < o.length) (h0 : 0 ≤ gi (levelsL o n who s) v) (i : Nat) :
    0 ≤ gi (levelsL o n who s) (itr (stepN o n who (fill (planV o n who (levelsL o n who s)) o.length) q) v i) := by
  induction i with
  | zero => exact h0
  | succ i ih => exact (lvl_step hf hw hq (itr_lt hf hw (planF_fine (who := who) hf (levelsL o n who s)) hq hv i) ih).1
theorem lvl_down (hf : fineAr o n) (hw : 0 ≤ who ∧ who ≤ 1) {s q : List Int} (hq : fullP o n (1 - who) q) {v : Nat} (hv : v < o.length) (h0 : 0 ≤ gi (levelsL o n who s) v) (a d : Nat) :
    gi (levelsL o n who s) (itr (stepN o n who (fill (planV o n who (levelsL o n who s)) o.length) q) v (a + d)) ≤ gi (levelsL o n who s) (itr (stepN o n who (fill (planV o n who (levelsL o n who s)) o.length) q) v a) := by
  induction d with
  | zero => exact Int.le_refl _
  | succ d ih =>
    have := (lvl_step hf hw hq (itr_lt hf hw (planF_fine (who := who) hf (levelsL o n who s)) hq hv (a + d)) (lvl_play hf hw hq hv h0 (a + d))).2.1
    exact Int.le_trans this ih
/-- the loop of a play by the plan lies within what is safe -/
theorem lvl_loop (hf : fineAr o n) (hw : 0 ≤ who ∧ who ≤ 1) {s q : List Int} (hq : fullP o n (1 - who) q) {v : Nat} (hv : v < o.length) (h0 : 0 ≤ gi (levelsL o n who s) v) {st lp : List Int} (hp : isPlay (stepN o n who (fill (planV o n who (levelsL o n who s)) o.length) q) v st lp) {x : Int} (hx : x ∈ lp) : x ∈ s := by
  obtain ⟨a, _, h2, h3⟩ := play_loop hp
  obtain ⟨i, e⟩ := h2 x hx
  obtain ⟨j, hj, e'⟩ := h3 x hx (i + 1)
  have st := (lvl_step hf hw hq (itr_lt hf hw (planF_fine (who := who) hf (levelsL o n who s)) hq hv (a + i)) (lvl_play hf hw hq hv h0 (a + i))).2
  have dn := lvl_down hf hw hq hv h0 (a + i + 1) (j - (i + 1))
  rw [show a + i + 1 + (j - (i + 1)) = a + j by omega] at dn
  have e2 : itr (stepN o n who (fill (planV o n who (levelsL o n who s)) o.length) q) v (a + j) = itr (stepN o n who (fill (planV o n who (levelsL o n who s)) o.length) q) v (a + i) := by omega
  rw [e2] at dn
  have key := st.2 (Int.le_antisymm st.1 dn)
  rw [← e] at key
  exact hasL_iff.1 key

/-! ### who cannot leave it for good can meet it again and again -/
theorem oft_sup {X : List Int} (hX : ∀ x, x ∈ X → 0 ≤ x ∧ x < o.length) (hs : shut o n who X) (ha : ∀ v : Nat, (v : Int) ∈ X → (v : Int) ∈ attrL o n who X goal) {v : Nat} (hv : (v : Int) ∈ X) : (v : Int) ∈ oftL o n who goal := by
  obtain ⟨k, e, _⟩ := oftL_is o n who goal
  rw [e]
  clear e
  have key : ∀ k x, x ∈ X → x ∈ oftS o n who goal k := by
    intro k
    induction k with
    | zero =>
      intro x hx
      obtain ⟨h0, h1⟩ := hX x hx
      have : ((x.toNat : Nat) : Int) ∈ allL o.length := all_mem (by omega)
      rwa [show ((x.toNat : Nat) : Int) = x by omega] at this
    | succ k ih =>
      intro x hx
      rw [oftS]
      refine stay_sup (t := X) hX hs (fun y hy => ?_) hx
      obtain ⟨b0, b1⟩ := hX y hy
      obtain ⟨u, rfl⟩ : ∃ u : Nat, y = (u : Int) := ⟨y.toNat, by omega⟩
      refine attr_ind (o := o) (n := n) (who := who) (inn := X) (goal := goal) (fun v => (v : Int) ∈ attrL o n who (oftS o n who goal k) goal) ?_ ?_ u (ha u hy)
      · intro v hv hg hi
        exact attr_goal hv hg (ih _ hi)
      · intro v R hv hi hR hp
        have hlt : ∀ w, gb (mkM o.length X) w = true → w < o.length := fun w hw => by have := gb_lt hw; rwa [mkM_len] at this
        refine attr_pull hv (ih _ hi) ?_
        unfold pulledB at hp ⊢
        by_cases own : gi o v = who
        · rw [if_pos own] at hp ⊢
          obtain ⟨i, hi', hg, h0⟩ := pSome_iff.1 hp
          have hl := hlt _ hg
          exact pSome_iff.2 ⟨i, hi', (mkM_iff hl).2 (ih _ ((mkM_iff hl).1 hg)), (attr_rank (hR _ hl h0)).2⟩
        · rw [if_neg own, Bool.and_eq_true] at hp ⊢
          have hy := (intoB_yours own).1 (hs v hv hi)
          obtain ⟨i, hi', hg⟩ := pIn_iff.1 hp.1
          have hl := hlt _ hg
          refine ⟨pIn_iff.2 ⟨i, hi', (mkM_iff hl).2 (ih _ ((mkM_iff hl).1 hg))⟩, pAll_iff.2 fun j hj _ => ?_⟩
          exact (attr_rank (hR _ (hlt _ (hy j hj)) (pAll_iff.1 hp.2 j hj (hy j hj)))).2
  exact key k _ hv
theorem mem_wonUp {L : List Int} {m : Nat} {x : Int} : x ∈ wonUp L m ↔ ∃ v : Nat, v < m ∧ 0 ≤ gi L v ∧ (v : Int) = x := by
  rw [show wonUp L m = pick (fun v => decide (0 ≤ gi L v)) (fun v => (v : Int)) m from rfl, mem_pick]
  simp only [decide_eq_true_iff]
theorem keptL_mono {x x' sf r r' : List Bool} {v : Nat} (hx : ∀ u, gb x u = true → gb x' u = true) (hr : ∀ u, gb r u = true → gb r' u = true) (h : keptL o n who x sf r v = true) : keptL o n who x' sf r' v = true := by
  unfold keptL at h ⊢
  rw [Bool.or_eq_true, Bool.and_eq_true] at h ⊢
  exact h.imp (intoB_mono hx) (And.imp id (intoB_mono hr))
theorem gb_all (m u : Nat) : gb (List.replicate m true) u = decide (u < m) := by
  unfold gb
  rw [List.getD_eq_getElem?_getD, List.getElem?_replicate]
  by_cases h : u < m <;> simp [h]
theorem levels_end (o : List Int) (n : List (List Int)) (who : Int) (s : List Int) : isLvl o n who (mkM o.length s) o.length (levelsL o n who s) := by
  obtain ⟨r, h⟩ := lvlE_ex o n who (mkM o.length s) o.length
  unfold levelsL
  rw [← h.is]; exact h
/-- a set each of whose vertices is kept, given the levels, has levels -/
theorem levels_top {s : List Int} {Y : List Bool} (hl : Y.length = o.length) (hY : ∀ v, gb Y v = true → keptL o n who (lowM (levelsL o n who s)) (mkM o.length s) Y v = true) {v : Nat} (hv : gb Y v = true) : 0 ≤ gi (levelsL o n who s) v := by
  obtain ⟨T, hT, hend⟩ := levels_end o n who s
  have hlt : ∀ u, gb Y u = true → u < o.length := fun u hu => by have := gb_lt hu; rwa [hl] at this
  have h := gfp_sup (kf := keptL o n who (lowM (levelsL o n who s)) (mkM o.length s)) (m := o.length) (ms := List.replicate o.length true) (Y := Y) (by simp) (fun Z v hZ => keptL_mono (fun u hu => hu) hZ) hY (fun u hu => by rw [gb_all]; exact decide_eq_true (hlt u hu)) hv
  refine Classical.byContradiction fun hc => hend v (hlt v hv) ⟨h, by omega⟩
theorem low_iff {s : List Int} {u : Nat} (hu : u < o.length) : gb (lowM (levelsL o n who s)) u = true ↔ 0 ≤ gi (levelsL o n who s) u := by
  rw [lowM_at (by rw [levelsL_len]; exact hu), decide_eq_true_iff]
theorem low_kept {s : List Int} {u : Nat} (hu : u < o.length) (h0 : 0 ≤ gi (levelsL o n who s) u) : keptL o n who (lowM (levelsL o n who s)) (mkM o.length s) (lowM (levelsL o n who s)) u = true := by
  obtain ⟨T, hT, hend⟩ := levels_end o n who s
  obtain ⟨l, hl⟩ := Int.eq_ofNat_of_zero_le h0
  rw [hT] at hl
  obtain ⟨hlT, hR, hneg⟩ := lvls_at hu hl
  have hkept := gfp_closed (by simp) hu hR
  refine keptL_mono (fun w hw => ?_) (fun w hw => ?_) hkept
  · have hwl : w < o.length := by have := gb_lt hw; rw [lowM_len, lvls_len] at this; exact this
    rw [low_iff hwl, hT]
    exact (lvls_low hwl hlT hw).1
  · have hwl : w < o.length := by have := gb_lt hw; unfold lvlSet at this; rw [gfp_len (by simp)] at this; exact this
    rw [low_iff hwl, hT]
    exact (lvls_in hwl hlT hw).1
theorem often_other (hf : fineAr o n) (hw : 0 ≤ who ∧ who ≤ 1) : wonUp (levelsL o n (1 - who) (otherL o.length goal)) o.length = otherL o.length (oftL o n who goal) := by
  have nxt : ∀ v, v < o.length → ∀ i, i < (gl n v).length → (gi (gl n v) i).toNat < o.length := fun v hv i hi => (row_nat hf hv hi).1
  have no : ∀ (l k v : Nat), v < o.length → (v : Int) ∈ oftL o n who goal → gi (levelsL o n (1 - who) (otherL o.length goal)) v = (l : Int) → gi (ranksL o n who (oftL o n who goal) goal) v = (k : Int) → False := by
    intro l
    induction l using Nat.strongRecOn with
    | ind l ihl =>
      intro k
      induction k using Nat.strongRecOn with
      | ind k ihk =>
        intro v hv hz hl hk
        obtain ⟨T, hT, hend⟩ := levels_end o n (1 - who) (otherL o.length goal)
        have hl' := hl
        rw [hT] at hl'
        obtain ⟨hlT, hR, hneg⟩ := lvls_at hv hl'
        have hkept := gfp_closed (by simp) hv hR
        have low : ∀ u, u < o.length → gb (lowM (lvls o n (1 - who) (mkM o.length (otherL o.length goal)) o.length l)) u = true → (u : Int) ∈ oftL o n who goal → False := fun u hu h hm => by
          have h1 := lvls_low hu hlT h
          rw [← hT] at h1
          obtain ⟨lu, hlu⟩ := Int.eq_ofNat_of_zero_le h1.1
          obtain ⟨k', hk'⟩ := Int.eq_ofNat_of_zero_le (oft_rank hf hu hm)
          exact ihl lu (by omega) k' u hu hm hlu hk'
        have inn : ∀ u, u < o.length → gb (lvlSet o n (1 - who) (mkM o.length (otherL o.length goal)) o.length (lvls o n (1 - who) (mkM o.length (otherL o.length goal)) o.length l)) u = true → (u : Int) ∈ oftL o n who goal → gi (ranksL o n who (oftL o n who goal) goal) u < (k : Int) → False := fun u hu h hm hr => by
          have h1 := lvls_in hu hlT h
          rw [← hT] at h1
          obtain ⟨lu, hlu⟩ := Int.eq_ofNat_of_zero_le h1.1
          obtain ⟨k', hk'⟩ := Int.eq_ofNat_of_zero_le (oft_rank hf hu hm)
          rcases Nat.lt_or_ge lu l with hx | hx
          · exact ihl lu hx k' u hu hm hlu hk'
          · have el : lu = l := by omega
            exact ihk k' (by omega) u hu hm (by rw [hlu, el]) hk'
        have hsh := oft_shut (who := who) (goal := goal) hf v hv hz
        unfold keptL at hkept
        rw [Bool.or_eq_true, Bool.and_eq_true] at hkept
        rcases hkept with h | ⟨hsf, h⟩
        · by_cases own : gi o v = who
          · obtain ⟨j, hj, hg⟩ := (intoB_mine own).1 hsh
            exact low _ (nxt v hv j hj) ((intoB_yours (show ¬ gi o v = 1 - who by omega)).1 h j hj) ((mkM_iff (nxt v hv j hj)).1 hg)
          · obtain ⟨j, hj, hg⟩ := (intoB_mine (show gi o v = 1 - who by have := (hf.2.2.2 v hv).1; omega)).1 h
            exact low _ (nxt v hv j hj) hg ((mkM_iff (nxt v hv j hj)).1 ((intoB_yours own).1 hsh j hj))
        · have hng := (other_iff hv).1 ((mkM_iff hv).1 hsf)
          have h0 : k ≠ 0 := fun e => hng (rank_zero (n := n) (who := who) (inn := oftL o n who goal) hv (by rw [hk, e]; rfl))
          obtain ⟨k, rfl⟩ : ∃ j, k = j + 1 := ⟨k - 1, by omega⟩
          obtain ⟨r1, r2⟩ := rank_step hv hk hf
          by_cases own : gi o v = who
          · obtain ⟨j, hj, hg, hr⟩ := r1 own
            exact inn _ (nxt v hv j hj) ((intoB_yours (show ¬ gi o v = 1 - who by omega)).1 h j hj) ((mkM_iff (nxt v hv j hj)).1 hg) (by rw [hr]; omega)
          · obtain ⟨j, hj, hg⟩ := (intoB_mine (show gi o v = 1 - who by have := (hf.2.2.2 v hv).1; omega)).1 h
            have hm := (intoB_yours own).1 hsh j hj
            have := (r2 own j hj hm).2
            exact inn _ (nxt v hv j hj) hg ((mkM_iff (nxt v hv j hj)).1 hm) (by omega)
  refine rises_ext (pick_rises fun i j h _ => by omega) (other_rises _ _) fun x => ?_
  constructor
  · intro hx
    obtain ⟨v, hv, h0, rfl⟩ := mem_wonUp.1 hx
    refine (other_iff hv).2 fun hz => ?_
    obtain ⟨l, hl⟩ := Int.eq_ofNat_of_zero_le h0
    obtain ⟨k, hk⟩ := Int.eq_ofNat_of_zero_le (oft_rank hf hv hz)
    exact no l k v hv hz hl hk
  · intro hx
    obtain ⟨v, hv, hh, rfl⟩ := mem_other.1 hx
    have hnz : ¬ (v : Int) ∈ oftL o n who goal := of_decide_eq_false hh
    refine mem_wonUp.2 ⟨v, hv, Classical.byContradiction fun hneg => hnz ?_, rfl⟩
    -- those without a level
    have mc : ∀ {u : Nat}, u < o.length → ((u : Int) ∈ otherL o.length (wonUp (levelsL o n (1 - who) (otherL o.length goal)) o.length) ↔ ¬ 0 ≤ gi (levelsL o n (1 - who) (otherL o.length goal)) u) := fun {u} hu => by
      rw [other_iff hu, mem_wonUp]
      constructor
      · exact fun h h0 => h ⟨u, hu, h0, rfl⟩
      · rintro h ⟨w, hw, h0, e⟩
        have : w = u := by omega
        subst this
        exact h h0
    have hsh : shut o n who (otherL o.length (wonUp (levelsL o n (1 - who) (otherL o.length goal)) o.length)) := by
      intro u hu hm
      have hn0 := (mc hu).1 hm
      have one : intoB o n (1 - who) (lowM (levelsL o n (1 - who) (otherL o.length goal))) u = true → False := fun h => by
        refine hn0 (levels_top (Y := mkM o.length [(u : Int)]) (mkM_len _ _) (fun w hw => ?_) ((mkM_iff hu).2 (by simp)))
        have hwl : w < o.length := by have := gb_lt hw; rwa [mkM_len] at this
        have : w = u := by have := (mkM_iff hwl).1 hw; simp at this; omega
        subst this
        exact keptL_1 h
      by_cases own : gi o u = who
      · refine (intoB_mine own).2 (Classical.byContradiction fun hno => one ?_)
        refine (intoB_yours (show ¬ gi o u = 1 - who by omega)).2 fun i hi => ?_
        refine (low_iff (nxt u hu i hi)).2 (Classical.byContradiction fun hc => hno ⟨i, hi, (mkM_iff (nxt u hu i hi)).2 ((mc (nxt u hu i hi)).2 hc)⟩)
      · refine (intoB_yours own).2 fun i hi => (mkM_iff (nxt u hu i hi)).2 ((mc (nxt u hu i hi)).2 fun hc => one ?_)
        exact (intoB_mine (show gi o u = 1 - who by have := (hf.2.2.2 u hu).1; omega)).2 ⟨i, hi, (low_iff (nxt u hu i hi)).2 hc⟩
    refine oft_sup (X := otherL o.length (wonUp (levelsL o n (1 - who) (otherL o.length goal)) o.length)) (fun x hx => set_mem (other_set _ _) hx) hsh ?_ ((mc hv).2 hneg)
    intro u hmu
    have hu : u < o.length := by have := set_mem (other_set _ _) hmu; omega
    refine Classical.byContradiction fun hna => (mc hu).1 hmu ?_
    -- what has a level, and what is not drawn to the goal
    have hYl : ((List.range o.length).map fun w => decide (0 ≤ gi (levelsL o n (1 - who) (otherL o.length goal)) w) || !hasL (attrL o n who (otherL o.length (wonUp (levelsL o n (1 - who) (otherL o.length goal)) o.length)) goal) (w : Int)).length = o.length := by simp
    have hYg : ∀ w, w < o.length → (gb ((List.range o.length).map fun w => decide (0 ≤ gi (levelsL o n (1 - who) (otherL o.length goal)) w) || !hasL (attrL o n who (otherL o.length (wonUp (levelsL o n (1 - who) (otherL o.length goal)) o.length)) goal) (w : Int)) w = true ↔ (0 ≤ gi (levelsL o n (1 - who) (otherL o.length goal)) w ∨ ¬ (w : Int) ∈ attrL o n who (otherL o.length (wonUp (levelsL o n (1 - who) (otherL o.length goal)) o.length)) goal)) := fun w hw => by
      rw [gb_get (by simpa using hw)]
      simp [hasL]
    generalize ((List.range o.length).map fun w => decide (0 ≤ gi (levelsL o n (1 - who) (otherL o.length goal)) w) || !hasL (attrL o n who (otherL o.length (wonUp (levelsL o n (1 - who) (otherL o.length goal)) o.length)) goal) (w : Int)) = Y at hYl hYg
    refine levels_top (Y := Y) hYl (fun w hw => ?_) ((hYg u hu).2 (.inr hna))
    have hwl : w < o.length := by have := gb_lt hw; rwa [hYl] at this
    have lowY : ∀ u, gb (lowM (levelsL o n (1 - who) (otherL o.length goal))) u = true → gb Y u = true := fun u hu => by
      have hul : u < o.length := by have := gb_lt hu; rw [lowM_len, levelsL_len] at this; exact this
      exact (hYg u hul).2 (.inl ((low_iff hul).1 hu))
    by_cases h0 : 0 ≤ gi (levelsL o n (1 - who) (otherL o.length goal)) w
    · exact keptL_mono (fun u hu => hu) lowY (low_kept hwl h0)
    · have hwn : ¬ (w : Int) ∈ attrL o n who (otherL o.length (wonUp (levelsL o n (1 - who) (otherL o.length goal)) o.length)) goal := ((hYg w hwl).1 hw).resolve_left h0
      have hwc := (mc hwl).2 h0
      have hng : ¬ (w : Int) ∈ goal := fun hg => hwn (attr_goal hwl hg hwc)
      have hsafe : gb (mkM o.length (otherL o.length goal)) w = true := (mkM_iff hwl).2 ((other_iff hwl).2 hng)
      have hrow := (hf.2.2.2 w hwl).2.1.1
      -- each way out leads to a level, or to what is drawn, or to what is not
      by_cases own : gi o w = who
      · unfold keptL
        rw [hsafe, Bool.true_and, Bool.or_eq_true]
        refine .inr ((intoB_yours (show ¬ gi o w = 1 - who by omega)).2 fun i hi => (hYg _ (nxt w hwl i hi)).2 ?_)
        by_cases hc : 0 ≤ gi (levelsL o n (1 - who) (otherL o.length goal)) (gi (gl n w) i).toNat
        · exact .inl hc
        · refine .inr fun ha => hwn (attr_pull hwl hwc ?_)
          unfold pulledB
          rw [if_pos own]
          exact pSome_iff.2 ⟨i, hi, (mkM_iff (nxt w hwl i hi)).2 ((mc (nxt w hwl i hi)).2 hc), (attr_rank ha).2⟩
      · have own' : gi o w = 1 - who := by have := (hf.2.2.2 w hwl).1; omega
        unfold keptL
        rw [hsafe, Bool.true_and, Bool.or_eq_true]
        refine .inr ((intoB_mine own').2 (Classical.byContradiction fun hno => hwn (attr_pull hwl hwc ?_)))
        have hall : ∀ i, i < (gl n w).length → ¬ 0 ≤ gi (levelsL o n (1 - who) (otherL o.length goal)) (gi (gl n w) i).toNat ∧ ((gi (gl n w) i).toNat : Int) ∈ attrL o n who (otherL o.length (wonUp (levelsL o n (1 - who) (otherL o.length goal)) o.length)) goal := fun i hi => by
          have h1 : ¬ (0 ≤ gi (levelsL o n (1 - who) (otherL o.length goal)) (gi (gl n w) i).toNat ∨ ¬ ((gi (gl n w) i).toNat : Int) ∈ attrL o n who (otherL o.length (wonUp (levelsL o n (1 - who) (otherL o.length goal)) o.length)) goal) := fun h => hno ⟨i, hi, (hYg _ (nxt w hwl i hi)).2 h⟩
          exact ⟨fun h => h1 (.inl h), Classical.byContradiction fun h => h1 (.inr h)⟩
        unfold pulledB
        rw [if_neg own, Bool.and_eq_true]
        exact ⟨pIn_iff.2 ⟨0, by omega, (mkM_iff (nxt w hwl 0 (by omega))).2 ((mc (nxt w hwl 0 (by omega))).2 (hall 0 (by omega)).1)⟩, pAll_iff.2 fun i hi _ => (attr_rank (hall i hi).2).2⟩

theorem oft_won (hf : fineAr o n) (hw : 0 ≤ who ∧ who ≤ 1) {v : Nat} (hv : v < o.length) (hm : hasL (oftL o n who goal) (v : Int) = true) {q st lp : List Int} (hq : fullP o n (1 - who) q) (hp : isPlay (stepN o n who (oftPlanL o n who goal) q) v st lp) : meetB goal lp = true := oft_loop hf hw hq hv (hasL_iff.1 hm) hp
theorem oft_lost (hf : fineAr o n) (hw : 0 ≤ who ∧ who ≤ 1) {v : Nat} (hv : v < o.length) (hm : hasL (oftL o n who goal) (v : Int) = false) {q st lp : List Int} (hq : fullP o n (1 - (1 - who)) q) (hp : isPlay (stepN o n (1 - who) (fill (planV o n (1 - who) (levelsL o n (1 - who) (otherL o.length goal))) o.length) q) v st lp) : meetB goal lp = false := by
  have h1 : (v : Int) ∈ wonUp (levelsL o n (1 - who) (otherL o.length goal)) o.length := by
    rw [often_other hf hw]
    exact (other_iff hv).2 (of_decide_eq_false hm)
  obtain ⟨u, _, h0, e⟩ := mem_wonUp.1 h1
  have e2 : u = v := by omega
  subst e2
  refine decide_eq_false fun ⟨x, hx, hxp⟩ => ?_
  have h2 := lvl_loop hf (show 0 ≤ 1 - who ∧ 1 - who ≤ 1 by omega) hq hv h0 hp hxp
  obtain ⟨w, _, hh, rfl⟩ := mem_other.1 h2
  exact of_decide_eq_false hh hx
end
end Go.Proofs.Ytefjhkcafcchlaa
