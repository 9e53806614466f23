/- What is met again and again: one round of the program's way and one round of the reference's leave the same set. Plain. -/
import Derived.Test.YtlmhhnplacejkaaPull
import Derived.Test.YtlmhhnplacejkaaPlan2
namespace Go.Proofs.Ytlmhhnplacejkaa
open Go.RowKit

/-! ### rising lists -/
theorem rises_pair {xs : List Int} : rises xs ↔ xs.Pairwise (· < ·) := by
  rw [List.pairwise_iff_getElem]
  unfold rises
  constructor
  · intro h i j hi hj hij
    have := h i j hij hj
    rwa [gi_get hi, gi_get hj] at this
  · intro h i j hij hj
    rw [gi_get (by omega), gi_get hj]
    exact h i j (by omega) hj hij
theorem pair_ext : ∀ {a b : List Int}, a.Pairwise (· < ·) → b.Pairwise (· < ·) → (∀ x, x ∈ a ↔ x ∈ b) → a = b
  | [], [], _, _, _ => rfl
  | [], y :: ys, _, _, h => absurd ((h y).2 (List.mem_cons_self ..)) (by simp)
  | x :: xs, [], _, _, h => absurd ((h x).1 (List.mem_cons_self ..)) (by simp)
  | x :: xs, y :: ys, ha, hb, h => by
    rw [List.pairwise_cons] at ha hb
    have e : x = y := by
      rcases List.mem_cons.1 ((h x).1 (List.mem_cons_self ..)) with e | e
      · exact e
      · rcases List.mem_cons.1 ((h y).2 (List.mem_cons_self ..)) with e' | e'
        · exact e'.symm
        · have := hb.1 x e; have := ha.1 y e'; omega
    subst e
    rw [pair_ext ha.2 hb.2 fun z => ?_]
    have hz := h z
    rw [List.mem_cons, List.mem_cons] at hz
    constructor
    · intro m
      rcases hz.1 (.inr m) with e | e
      · have := ha.1 z m; omega
      · exact e
    · intro m
      rcases hz.2 (.inr m) with e | e
      · have := hb.1 z m; omega
      · exact e
theorem rises_ext {a b : List Int} (ha : rises a) (hb : rises b) (h : ∀ x, x ∈ a ↔ x ∈ b) : a = b := pair_ext (rises_pair.1 ha) (rises_pair.1 hb) h
theorem setB_of_rises {xs : List Int} {n : Int} (h : rises xs) (hb : ∀ x, x ∈ xs → 0 ≤ x ∧ x < n) : setB xs n = true := setB_true.2 fun i hi => by
  refine ⟨(hb _ (gi_mem hi)).1, (hb _ (gi_mem hi)).2, fun h0 => h _ _ (by omega) hi⟩
theorem set_mem {xs : List Int} {n : Int} (h : setB xs n = true) {x : Int} (hx : x ∈ xs) : 0 ≤ x ∧ x < n := by
  obtain ⟨i, hi, rfl⟩ := mem_gi hx
  have := setB_true.1 h i hi
  exact ⟨this.1, this.2.1⟩
theorem pick_rises {p : Nat → Bool} {f : Nat → Int} {k : Nat} (h : ∀ i j, i < j → j < k → f i < f j) : rises (pick p f k) := by
  rw [rises_pair]
  induction k with
  | zero => exact List.Pairwise.nil
  | succ k ih =>
    have ih' := ih fun i j h1 h2 => h i j h1 (by omega)
    cases hp : p k with
    | false => rw [pick_no hp]; exact ih'
    | true =>
      rw [pick_yes hp, List.pairwise_append]
      refine ⟨ih', List.pairwise_singleton _ _, fun x hx y hy => ?_⟩
      rw [List.mem_singleton] at hy
      obtain ⟨i, hi, _, rfl⟩ := mem_pick.1 hx
      rw [hy]
      exact h i k hi (by omega)
theorem mem_listM {ms : List Bool} {x : Int} : x ∈ listM ms ↔ ∃ v : Nat, v < ms.length ∧ gb ms v = true ∧ (v : Int) = x := mem_pick
theorem listM_rises (ms : List Bool) : rises (listM ms) := pick_rises fun i j h _ => by omega
theorem mem_lessL {a b : List Int} {x : Int} : x ∈ lessL a b ↔ x ∈ a ∧ x ∉ b := by
  unfold lessL lessUp
  rw [mem_pick]
  constructor
  · rintro ⟨i, hi, h1, rfl⟩
    refine ⟨gi_mem hi, fun h => ?_⟩
    rw [show hasL b (gi a i) = true from decide_eq_true h] at h1
    cases h1
  · rintro ⟨h1, h2⟩
    obtain ⟨i, hi, rfl⟩ := mem_gi h1
    exact ⟨i, hi, by rw [show hasL b (gi a i) = false from decide_eq_false h2]; rfl, rfl⟩
theorem lessL_rises {a : List Int} (h : rises a) (b : List Int) : rises (lessL a b) := pick_rises h
theorem lessL_set {a : List Int} {n : Int} (h : setB a n = true) (b : List Int) : setB (lessL a b) n = true :=
  setB_of_rises (lessL_rises (rises_set h) b) fun x hx => set_mem h (mem_lessL.1 hx).1
def meetL (a b : List Int) : List Int := pick (fun i => hasL b (gi a i)) (gi a) a.length
theorem mem_meetL {a b : List Int} {x : Int} : x ∈ meetL a b ↔ x ∈ a ∧ x ∈ b := by
  unfold meetL
  rw [mem_pick]
  constructor
  · rintro ⟨i, hi, h1, rfl⟩
    exact ⟨gi_mem hi, of_decide_eq_true h1⟩
  · rintro ⟨h1, h2⟩
    obtain ⟨i, hi, rfl⟩ := mem_gi h1
    exact ⟨i, hi, decide_eq_true h2, rfl⟩
theorem meetL_set {a : List Int} {n : Int} (h : setB a n = true) (b : List Int) : setB (meetL a b) n = true :=
  setB_of_rises (pick_rises (rises_set h)) fun x hx => set_mem h (mem_meetL.1 hx).1
theorem setB_up {xs : List Int} {n m : Int} (h : setB xs n = true) (hm : n ≤ m) : setB xs m = true :=
  setB_of_rises (rises_set h) fun x hx => by have := set_mem h hx; omega
theorem hasL_iff {xs : List Int} {x : Int} : hasL xs x = true ↔ x ∈ xs := decide_eq_true_iff
theorem mkM_iff {m : Nat} {xs : List Int} {v : Nat} (hv : v < m) : gb (mkM m xs) v = true ↔ (v : Int) ∈ xs := by rw [mkM_at hv, hasL_iff]

/-! ### the greatest set -/
theorem sweep_sub {kf : List Bool → Nat → Bool} {ms : List Bool} : ∀ {k v : Nat}, gb (sweep kf ms k) v = true → gb ms v = true
  | 0, _, h => h
  | k + 1, v, h => by
    rw [sweep] at h
    split at h
    · rename_i hc
      rw [Bool.and_eq_true] at hc
      have hk : k < (sweep kf ms k).length := by
        rcases Nat.lt_or_ge k (sweep kf ms k).length with h1 | h1
        · exact h1
        · have := hc.1; unfold gb at this; rw [List.getD_eq_getElem?_getD, List.getElem?_eq_none h1] at this; cases this
      rw [gb_set hk] at h
      split at h
      · cases h
      · exact sweep_sub h
    · exact sweep_sub h
theorem sweep_fix {kf : List Bool → Nat → Bool} {ms : List Bool} {m : Nat} (h : sweep kf ms m = ms) : ∀ k, k ≤ m → sweep kf ms k = ms := by
  intro k hk
  rcases sweep_cnt kf ms k with e | e
  · exact e
  · exfalso
    have mono : ∀ d, cnt (sweep kf ms (k + d)) ≤ cnt (sweep kf ms k) := by
      intro d
      induction d with
      | zero => exact Nat.le_refl _
      | succ d ih =>
        rw [← Nat.add_assoc]
        by_cases hc : (gb (sweep kf ms (k + d)) (k + d) && !kf (sweep kf ms (k + d)) (k + d)) = true
        · rw [Bool.and_eq_true] at hc
          rw [sweep_hit hc.1 (by simpa using hc.2)]
          have := cnt_off hc.1
          omega
        · rw [sweep, if_neg hc]; exact ih
    have := mono (m - k)
    rw [show k + (m - k) = m from by omega, h] at this
    omega
theorem sweep_closed {kf : List Bool → Nat → Bool} {ms : List Bool} {m : Nat} (h : sweep kf ms m = ms) {v : Nat} (hv : v < m) (hg : gb ms v = true) : kf ms v = true := by
  have h1 := sweep_fix h v (by omega)
  have h2 := sweep_fix h (v + 1) (by omega)
  rw [sweep, h1] at h2
  cases hk : kf ms v with
  | true => rfl
  | false =>
    rw [hg, hk] at h2
    simp only [Bool.not_false, Bool.and_self, if_true] at h2
    have := cnt_off hg
    rw [h2] at this
    omega
theorem sweep_sup {kf : List Bool → Nat → Bool} {ms Y : List Bool} (hm : ∀ Z v, (∀ u, gb Y u = true → gb Z u = true) → kf Y v = true → kf Z v = true) (hY : ∀ v, gb Y v = true → kf Y v = true) (h0 : ∀ u, gb Y u = true → gb ms u = true) : ∀ k u, gb Y u = true → gb (sweep kf ms k) u = true
  | 0, u, h => h0 u h
  | k + 1, u, h => by
    have ih := sweep_sup hm hY h0 k
    rw [sweep]
    split
    · rename_i hc
      rw [Bool.and_eq_true] at hc
      have hk : k < (sweep kf ms k).length := by
        rcases Nat.lt_or_ge k (sweep kf ms k).length with h1 | h1
        · exact h1
        · have := hc.1; unfold gb at this; rw [List.getD_eq_getElem?_getD, List.getElem?_eq_none h1] at this; cases this
      rw [gb_set hk]
      split
      · rename_i e
        subst e
        have := hm _ k ih (hY k h)
        rw [this] at hc
        exact absurd hc.2 (by decide)
      · exact ih u h
    · exact ih u h
theorem sweeps_sup {kf : List Bool → Nat → Bool} {m : Nat} {ms Y : List Bool} (hm : ∀ Z v, (∀ u, gb Y u = true → gb Z u = true) → kf Y v = true → kf Z v = true) (hY : ∀ v, gb Y v = true → kf Y v = true) (h0 : ∀ u, gb Y u = true → gb ms u = true) : ∀ t u, gb Y u = true → gb (sweeps kf m ms t) u = true
  | 0, u, h => h0 u h
  | t + 1, u, h => by rw [sweeps]; exact sweep_sup hm hY (sweeps_sup hm hY h0 t) m u h
theorem sweeps_sub {kf : List Bool → Nat → Bool} {m : Nat} {ms : List Bool} : ∀ {t v : Nat}, gb (sweeps kf m ms t) v = true → gb ms v = true
  | 0, _, h => h
  | t + 1, v, h => by rw [sweeps] at h; exact sweeps_sub (sweep_sub h)
theorem gfp_spec (kf : List Bool → Nat → Bool) (m : Nat) (ms : List Bool) (h : ms.length = m) : isGfp kf m ms (gfp kf m ms) := by
  obtain ⟨r, hr⟩ := gfp_ex kf m ms h
  rw [← hr.is]; exact hr
theorem gfp_len {kf : List Bool → Nat → Bool} {m : Nat} {ms : List Bool} (h : ms.length = m) : (gfp kf m ms).length = m := by rw [(gfp_spec kf m ms h).len, h]
theorem gfp_sub {kf : List Bool → Nat → Bool} {m : Nat} {ms : List Bool} (h : ms.length = m) {v : Nat} (hv : gb (gfp kf m ms) v = true) : gb ms v = true := by
  obtain ⟨t, e, _⟩ := gfp_spec kf m ms h
  rw [e] at hv
  exact sweeps_sub hv
theorem gfp_closed {kf : List Bool → Nat → Bool} {m : Nat} {ms : List Bool} (h : ms.length = m) {v : Nat} (hl : v < m) (hv : gb (gfp kf m ms) v = true) : kf (gfp kf m ms) v = true := by
  obtain ⟨t, e, f⟩ := gfp_spec kf m ms h
  exact sweep_closed f hl hv
theorem gfp_sup {kf : List Bool → Nat → Bool} {m : Nat} {ms Y : List Bool} (h : ms.length = m) (hm : ∀ Z v, (∀ u, gb Y u = true → gb Z u = true) → kf Y v = true → kf Z v = true) (hY : ∀ v, gb Y v = true → kf Y v = true) (h0 : ∀ u, gb Y u = true → gb ms u = true) {u : Nat} (hu : gb Y u = true) : gb (gfp kf m ms) u = true := by
  obtain ⟨t, e, _⟩ := gfp_spec kf m ms h
  rw [e]
  exact sweeps_sup hm hY h0 t u hu

/-! ### a step into a set -/
theorem someUp_iff {ns : List Int} {ms : List Bool} : ∀ {k : Nat}, someUp ns ms k = true ↔ ∃ i, i < k ∧ gb ms (gi ns i).toNat = true
  | 0 => by simp [someUp]
  | k + 1 => by
    rw [someUp, Bool.or_eq_true, someUp_iff]
    constructor
    · rintro (⟨i, hi, h⟩ | h)
      · exact ⟨i, by omega, h⟩
      · exact ⟨k, by omega, h⟩
    · rintro ⟨i, hi, h⟩
      by_cases e : i = k
      · subst e; exact .inr h
      · exact .inl ⟨i, by omega, h⟩
theorem allUp_iff {ns : List Int} {ms : List Bool} : ∀ {k : Nat}, allUp ns ms k = true ↔ ∀ i, i < k → gb ms (gi ns i).toNat = true
  | 0 => by simp [allUp]
  | k + 1 => by
    rw [allUp, Bool.and_eq_true, allUp_iff]
    constructor
    · rintro ⟨h1, h2⟩ i hi
      by_cases e : i = k
      · subst e; exact h2
      · exact h1 i (by omega)
    · intro h
      exact ⟨fun i hi => h i (by omega), h k (by omega)⟩
theorem intoB_mine {o : List Int} {n : List (List Int)} {who : Int} {ms : List Bool} {v : Nat} (h : gi o v = who) : intoB o n who ms v = true ↔ ∃ i, i < (gl n v).length ∧ gb ms (gi (gl n v) i).toNat = true := by
  unfold intoB; rw [if_pos h, someUp_iff]
theorem intoB_yours {o : List Int} {n : List (List Int)} {who : Int} {ms : List Bool} {v : Nat} (h : ¬ gi o v = who) : intoB o n who ms v = true ↔ ∀ i, i < (gl n v).length → gb ms (gi (gl n v) i).toNat = true := by
  unfold intoB; rw [if_neg h, allUp_iff]
theorem intoB_mono {o : List Int} {n : List (List Int)} {who : Int} {Y Z : List Bool} {v : Nat} (h : ∀ u, gb Y u = true → gb Z u = true) (hY : intoB o n who Y v = true) : intoB o n who Z v = true := by
  by_cases e : gi o v = who
  · obtain ⟨i, hi, hg⟩ := (intoB_mine e).1 hY
    exact (intoB_mine e).2 ⟨i, hi, h _ hg⟩
  · exact (intoB_yours e).2 fun i hi => h _ ((intoB_yours e).1 hY i hi)

/-! ### the attractor -/
theorem mem_attrL {o : List Int} {n : List (List Int)} {who : Int} {inn goal : List Int} {x : Int} : x ∈ attrL o n who inn goal ↔ ∃ v : Nat, v < o.length ∧ 0 ≤ gi (ranksL o n who inn goal) v ∧ (v : Int) = x := by
  unfold attrL
  rw [show wonUp (ranksL o n who inn goal) o.length = pick (fun v => decide (0 ≤ gi (ranksL o n who inn goal) v)) (fun v => (v : Int)) o.length from rfl, mem_pick]
  simp only [decide_eq_true_iff]
theorem attrL_set (o : List Int) (n : List (List Int)) (who : Int) (inn goal : List Int) : setB (attrL o n who inn goal) o.length = true :=
  setB_of_rises (pick_rises fun i j h _ => by omega) fun x hx => by
    obtain ⟨v, hv, _, rfl⟩ := mem_attrL.1 hx
    omega
theorem attr_in {o : List Int} {n : List (List Int)} {who : Int} {inn goal : List Int} {x : Int} (h : x ∈ attrL o n who inn goal) : x ∈ inn := by
  obtain ⟨v, hv, hr, rfl⟩ := mem_attrL.1 h
  exact (mkM_iff hv).1 (ranksL_in hv hr)
theorem ranks_end (o : List Int) (n : List (List Int)) (who : Int) (inn goal : List Int) : rnkEnd o n who inn (ranksL o n who inn goal) o.length := by
  obtain ⟨k, hk, h⟩ := ranksL_is o n who inn goal
  exact h
theorem attr_goal {o : List Int} {n : List (List Int)} {who : Int} {inn goal : List Int} {v : Nat} (hv : v < o.length) (hg : (v : Int) ∈ goal) (hi : (v : Int) ∈ inn) : (v : Int) ∈ attrL o n who inn goal := by
  refine mem_attrL.2 ⟨v, hv, ?_, rfl⟩
  obtain ⟨k, hk, _⟩ := ranksL_is o n who inn goal
  rw [hk]
  clear hk
  have key : ∀ k, gi (rnks o n who inn goal o.length k) v = 0 := by
    intro k
    induction k with
    | zero =>
      rw [rnks]; unfold rnk0
      rw [fill_at hv, if_pos (hasL_iff.2 hg), if_pos ((mkM_iff hv).2 hi)]
    | succ k ih =>
      rw [rnks]; unfold rnkS
      rw [fill_at hv, if_pos (hasL_iff.2 hi), if_neg, ih]
      unfold rnkC
      rw [ih]; simp
  rw [key]; exact Int.le_refl _
theorem attr_pull {o : List Int} {n : List (List Int)} {who : Int} {inn goal : List Int} {v : Nat} (hv : v < o.length) (hi : (v : Int) ∈ inn) (hp : pulledB o n who (mkM o.length inn) (ranksL o n who inn goal) v = true) : (v : Int) ∈ attrL o n who inn goal := by
  refine mem_attrL.2 ⟨v, hv, ?_, rfl⟩
  have h := ranks_end o n who inn goal v hv (hasL_iff.2 hi)
  unfold rnkC at h
  rw [hp, Bool.and_true] at h
  have := of_decide_eq_false h
  omega
/-- whatever holds of the goal and is handed on to what is pulled holds of the attractor -/
theorem attr_ind {o : List Int} {n : List (List Int)} {who : Int} {inn goal : List Int} (X : Nat → Prop)
    (h0 : ∀ v : Nat, v < o.length → (v : Int) ∈ goal → (v : Int) ∈ inn → X v)
    (h1 : ∀ (v : Nat) (R : List Int), v < o.length → (v : Int) ∈ inn → (∀ u, u < o.length → 0 ≤ gi R u → X u) → pulledB o n who (mkM o.length inn) R v = true → X v) :
    ∀ v : Nat, (v : Int) ∈ attrL o n who inn goal → X v := by
  have key : ∀ k v, v < o.length → 0 ≤ gi (rnks o n who inn goal o.length k) v → X v := by
    intro k
    induction k with
    | zero =>
      intro v hv h
      rw [rnks] at h; unfold rnk0 at h
      rw [fill_at hv] at h
      split at h
      · rename_i hg
        split at h
        · rename_i hi
          exact h0 v hv (hasL_iff.1 hg) ((mkM_iff hv).1 hi)
        · omega
      · omega
    | succ k ih =>
      intro v hv h
      rw [rnks] at h; unfold rnkS at h
      rw [fill_at hv] at h
      split at h
      · rename_i hi
        split at h
        · rename_i hc
          unfold rnkC at hc
          rw [Bool.and_eq_true] at hc
          exact h1 v _ hv (hasL_iff.1 hi) (fun u hu h => ih u hu h) hc.2
        · exact ih v hv h
      · exact ih v hv h
  intro v hv
  obtain ⟨u, hu, hr, e⟩ := mem_attrL.1 hv
  obtain ⟨k, hk, _⟩ := ranksL_is o n who inn goal
  rw [hk] at hr
  have : u = v := by omega
  subst this
  exact key k u hu hr
theorem ranks_meet (o : List Int) (n : List (List Int)) (who : Int) (inn goal : List Int) : ranksL o n who inn (meetL goal inn) = ranksL o n who inn goal := by
  rw [ranksL_eq, ranksL_eq]
  have key : ∀ k, rnks o n who inn (meetL goal inn) o.length k = rnks o n who inn goal o.length k := by
    intro k
    induction k with
    | zero =>
      rw [rnks, rnks]; unfold rnk0
      refine gi_ext (by rw [fill_len, fill_len]) fun v hv => ?_
      rw [fill_len] at hv
      rw [fill_at hv, fill_at hv]
      by_cases hg : (v : Int) ∈ goal
      · by_cases hi : (v : Int) ∈ inn
        · rw [if_pos (hasL_iff.2 (mem_meetL.2 ⟨hg, hi⟩)), if_pos (hasL_iff.2 hg)]
        · rw [if_neg (fun h => hi (mem_meetL.1 (hasL_iff.1 h)).2), if_pos (hasL_iff.2 hg), if_neg (fun h => hi ((mkM_iff hv).1 h))]
      · rw [if_neg (fun h => hg (mem_meetL.1 (hasL_iff.1 h)).1), if_neg (fun h => hg (hasL_iff.1 h))]
    | succ k ih => rw [rnks, rnks, ih]
  exact key _
theorem attr_meet (o : List Int) (n : List (List Int)) (who : Int) (inn goal : List Int) : attrL o n who inn (meetL goal inn) = attrL o n who inn goal := by unfold attrL; rw [ranks_meet]

/-! ### the rounds -/
/-- who need not leave the set -/
def shut (o : List Int) (n : List (List Int)) (who : Int) (s : List Int) : Prop := ∀ v : Nat, v < o.length → (v : Int) ∈ s → intoB o n who (mkM o.length s) v = true
theorem shut_all {o : List Int} {n : List (List Int)} (hf : fineAr o n) (who : Int) : shut o n who (allL o.length) := by
  intro v hv _
  obtain ⟨_, ⟨h1, _⟩, hs⟩ := hf.2.2.2 v hv
  have hin : ∀ i, i < (gl n v).length → gb (mkM o.length (allL o.length)) (gi (gl n v) i).toNat = true := by
    intro i hi
    have := setB_true.1 hs i hi
    have hu : (gi (gl n v) i).toNat < o.length := by have h1 := this.1; have h2 := this.2.1; omega
    rw [mkM_iff hu]
    have := gi_mem (xs := allL o.length) (i := (gi (gl n v) i).toNat) (by rw [allL_len]; exact hu)
    rwa [gi_all hu] at this
  by_cases e : gi o v = who
  · exact (intoB_mine e).2 ⟨0, by omega, hin 0 (by omega)⟩
  · exact (intoB_yours e).2 hin
/-- one round -/
noncomputable def oftStep (o : List Int) (n : List (List Int)) (who : Int) (goal s : List Int) : List Int := listM (stayM o n who (attrL o n who s goal))
theorem oftStep_set (o : List Int) (n : List (List Int)) (who : Int) (goal s : List Int) : setB (oftStep o n who goal s) o.length = true := listM_set stayM_len
theorem gb_lt {ms : List Bool} {v : Nat} (h : gb ms v = true) : v < ms.length := by
  rcases Nat.lt_or_ge v ms.length with h1 | h1
  · exact h1
  · unfold gb at h; rw [List.getD_eq_getElem?_getD, List.getElem?_eq_none h1] at h; cases h
theorem mem_stay {o : List Int} {n : List (List Int)} {who : Int} {s : List Int} {v : Nat} : (v : Int) ∈ listM (stayM o n who s) ↔ gb (stayM o n who s) v = true := by
  rw [mem_listM]
  constructor
  · rintro ⟨u, _, h, e⟩
    have : u = v := by omega
    rw [← this]; exact h
  · intro h
    exact ⟨v, gb_lt h, h, rfl⟩
theorem stay_sub {o : List Int} {n : List (List Int)} {who : Int} {s : List Int} {x : Int} (h : x ∈ listM (stayM o n who s)) : x ∈ s := by
  obtain ⟨v, hv, hg, rfl⟩ := mem_listM.1 h
  rw [stayM_len] at hv
  exact (mkM_iff hv).1 (gfp_sub (mkM_len _ _) hg)
theorem mkM_eq {ms : List Bool} {m : Nat} (h : ms.length = m) : mkM m (listM ms) = ms := mkM_list h
theorem stay_shut (o : List Int) (n : List (List Int)) (who : Int) (s : List Int) : shut o n who (listM (stayM o n who s)) := by
  intro v hv hm
  rw [mkM_eq stayM_len]
  exact gfp_closed (mkM_len _ _) hv (mem_stay.1 hm)
theorem stay_sup {o : List Int} {n : List (List Int)} {who : Int} {s t : List Int} (ht : ∀ x, x ∈ t → 0 ≤ x ∧ x < o.length) (hs : shut o n who t) (h : ∀ x, x ∈ t → x ∈ s) {x : Int} (hx : x ∈ t) : x ∈ listM (stayM o n who s) := by
  obtain ⟨h0, h1⟩ := ht x hx
  obtain ⟨v, rfl⟩ : ∃ v : Nat, x = (v : Int) := ⟨x.toNat, by omega⟩
  rw [mem_stay]
  have hlt : ∀ u, gb (mkM o.length t) u = true → u < o.length := fun u hu => by have := gb_lt hu; rwa [mkM_len] at this
  refine gfp_sup (Y := mkM o.length t) (mkM_len _ _) (fun Z v hZ => intoB_mono hZ) (fun v hv => hs v (hlt v hv) ((mkM_iff (hlt v hv)).1 hv)) (fun u hu => (mkM_iff (hlt u hu)).2 (h _ ((mkM_iff (hlt u hu)).1 hu))) ?_
  exact (mkM_iff (by omega)).2 hx
theorem setB_nat {xs : List Int} {m : Nat} (h : setB xs (m : Int) = true) {i : Nat} (hi : i < xs.length) : (gi xs i).toNat < m ∧ ((gi xs i).toNat : Int) = gi xs i := by
  have h0 := setB_true.1 h i hi
  have h1 := h0.1; have h2 := h0.2.1
  exact ⟨by omega, by omega⟩
/-- the reference's round leaves the same set -/
theorem oft_same {o : List Int} {n : List (List Int)} (hf : fineAr o n) {who : Int} (hw : who = 0 ∨ who = 1) {goal s : List Int} (hs : setB s o.length = true) (hc : shut o n who s) :
    lessL s (attrL o n (1 - who) s (lessL s (attrL o n who s goal))) = oftStep o n who goal s := by
  have nat : ∀ x, x ∈ s → ∃ v : Nat, v < o.length ∧ x = (v : Int) := fun x hx => by
    have := set_mem hs hx
    exact ⟨x.toNat, by omega, by omega⟩
  have nxt : ∀ v, v < o.length → ∀ i, i < (gl n v).length → (gi (gl n v) i).toNat < o.length ∧ ((gi (gl n v) i).toNat : Int) = gi (gl n v) i := fun v hv i hi => setB_nat (hf.2.2.2 v hv).2.2 hi
  -- a vertex of the reference's set: its owner's moves
  have T : shut o n who (lessL s (attrL o n (1 - who) s (lessL s (attrL o n who s goal)))) := by
    intro v hv hm
    obtain ⟨hms, hna⟩ := mem_lessL.1 hm
    have hin := hc v hv hms
    by_cases e : gi o v = who
    · have e' : ¬ gi o v = 1 - who := by omega
      obtain ⟨i, hi, hg⟩ := (intoB_mine e).1 hin
      -- not all that lie inside are pulled
      have hnp : pulledB o n (1 - who) (mkM o.length s) (ranksL o n (1 - who) s (lessL s (attrL o n who s goal))) v = false := by
        cases hp : pulledB o n (1 - who) (mkM o.length s) (ranksL o n (1 - who) s (lessL s (attrL o n who s goal))) v with
        | false => rfl
        | true => exact absurd (attr_pull hv hms hp) hna
      unfold pulledB at hnp
      rw [if_neg e', Bool.and_eq_false_iff] at hnp
      rcases hnp with hnp | hnp
      · rw [pIn_iff.2 ⟨i, hi, hg⟩] at hnp; cases hnp
      · have : ∃ j, j < (gl n v).length ∧ gb (mkM o.length s) (gi (gl n v) j).toNat = true ∧ ¬ 0 ≤ gi (ranksL o n (1 - who) s (lessL s (attrL o n who s goal))) (gi (gl n v) j).toNat := by
          refine Classical.byContradiction fun hx => ?_
          rw [pAll_iff.2 fun j hj h1 => Classical.byContradiction fun h2 => hx ⟨j, hj, h1, h2⟩] at hnp
          cases hnp
        obtain ⟨j, hj, h1, h2⟩ := this
        obtain ⟨hu, hu'⟩ := nxt v hv j hj
        refine (intoB_mine e).2 ⟨j, hj, (mkM_iff hu).2 (mem_lessL.2 ⟨(mkM_iff hu).1 h1, fun ha => ?_⟩)⟩
        obtain ⟨u, _, hr, eu⟩ := mem_attrL.1 ha
        have : u = (gi (gl n v) j).toNat := by omega
        rw [this] at hr
        exact h2 hr
    · have e' : gi o v = 1 - who := by
        have := (hf.2.2.2 v hv).1
        omega
      refine (intoB_yours e).2 fun i hi => ?_
      obtain ⟨hu, hu'⟩ := nxt v hv i hi
      have hgi := (intoB_yours e).1 hin i hi
      refine (mkM_iff hu).2 (mem_lessL.2 ⟨(mkM_iff hu).1 hgi, fun ha => hna ?_⟩)
      obtain ⟨u, _, hr, eu⟩ := mem_attrL.1 ha
      have : u = (gi (gl n v) i).toNat := by omega
      rw [this] at hr
      refine attr_pull hv hms ?_
      unfold pulledB
      rw [if_pos e']
      exact pSome_iff.2 ⟨i, hi, hgi, hr⟩
  refine rises_ext (lessL_rises (rises_set hs) _) (listM_rises _) fun x => ⟨fun hx => ?_, fun hx => ?_⟩
  · refine stay_sup (fun x hx => set_mem hs (mem_lessL.1 hx).1) T (fun x hx => ?_) hx
    obtain ⟨h1, h2⟩ := mem_lessL.1 hx
    refine Classical.byContradiction fun h3 => h2 ?_
    obtain ⟨v, hv, rfl⟩ := nat x h1
    exact attr_goal hv (mem_lessL.2 ⟨h1, h3⟩) h1
  · have hr := stay_sub hx
    have hxs := attr_in hr
    refine mem_lessL.2 ⟨hxs, fun ha => ?_⟩
    obtain ⟨v, hv, rfl⟩ := nat x hxs
    refine attr_ind (fun v => (v : Int) ∉ listM (stayM o n who (attrL o n who s goal))) ?_ ?_ v ha hx
    · intro u hu hg _ hm
      exact (mem_lessL.1 hg).2 (stay_sub hm)
    · intro u R hu hi ih hp hm
      have hsh := stay_shut o n who (attrL o n who s goal) u hu hm
      rw [mkM_eq stayM_len] at hsh
      unfold pulledB at hp
      by_cases e : gi o u = who
      · rw [if_neg (by omega), Bool.and_eq_true] at hp
        obtain ⟨i, hi', hg⟩ := (intoB_mine e).1 hsh
        obtain ⟨h1, h2⟩ := nxt u hu i hi'
        have hmm := mem_stay.2 hg
        have := (mkM_iff h1).2 (attr_in (stay_sub hmm))
        exact ih _ h1 (pAll_iff.1 hp.2 i hi' this) hmm
      · rw [if_pos (by have := (hf.2.2.2 u hu).1; omega)] at hp
        obtain ⟨i, hi', hg, hR⟩ := pSome_iff.1 hp
        obtain ⟨h1, h2⟩ := nxt u hu i hi'
        exact ih _ h1 hR (mem_stay.2 ((intoB_yours e).1 hsh i hi'))
/-- the rounds -/
noncomputable def oftS (o : List Int) (n : List (List Int)) (who : Int) (goal : List Int) : Nat → List Int
  | 0 => allL o.length
  | k + 1 => oftStep o n who goal (oftS o n who goal k)
theorem oftS_set (o : List Int) (n : List (List Int)) (who : Int) (goal : List Int) (k : Nat) : setB (oftS o n who goal k) o.length = true := by
  cases k with
  | zero => exact allL_set _
  | succ k => exact oftStep_set _ _ _ _ _
theorem oftS_shut {o : List Int} {n : List (List Int)} (hf : fineAr o n) (who : Int) (goal : List Int) (k : Nat) : shut o n who (oftS o n who goal k) := by
  cases k with
  | zero => exact shut_all hf who
  | succ k => exact stay_shut _ _ _ _
def isOft (o : List Int) (n : List (List Int)) (who : Int) (goal R : List Int) : Prop := ∃ k, R = oftS o n who goal k ∧ oftStep o n who goal R = R
theorem oftS_fix {o : List Int} {n : List (List Int)} {who : Int} {goal : List Int} {k : Nat} (h : oftStep o n who goal (oftS o n who goal k) = oftS o n who goal k) : ∀ d, oftS o n who goal (k + d) = oftS o n who goal k
  | 0 => rfl
  | d + 1 => by rw [← Nat.add_assoc, oftS, oftS_fix h d, h]
theorem isOft.eq {o : List Int} {n : List (List Int)} {who : Int} {goal r r' : List Int} (h : isOft o n who goal r) (h' : isOft o n who goal r') : r = r' := by
  obtain ⟨t, rfl, hf⟩ := h
  obtain ⟨t', rfl, hf'⟩ := h'
  rcases Nat.le_total t t' with hl | hl
  · have := oftS_fix hf (t' - t)
    rw [show t + (t' - t) = t' from by omega] at this
    exact this.symm
  · have := oftS_fix hf' (t - t')
    rw [show t' + (t - t') = t from by omega] at this
    exact this
noncomputable def oftL (o : List Int) (n : List (List Int)) (who : Int) (goal : List Int) : List Int := @Classical.epsilon _ ⟨[]⟩ (isOft o n who goal)
theorem isOft.is {o : List Int} {n : List (List Int)} {who : Int} {goal r : List Int} (h : isOft o n who goal r) : r = oftL o n who goal := h.eq (@Classical.epsilon_spec _ (isOft o n who goal) ⟨r, h⟩)
/-- a set within another one, no shorter, is that one -/
theorem sub_len : ∀ {a b : List Int}, a.Pairwise (· < ·) → b.Pairwise (· < ·) → (∀ x, x ∈ a → x ∈ b) → a.length ≤ b.length ∧ (b.length ≤ a.length → a = b)
  | [], b, _, _, _ => ⟨by simp, fun h => by cases b with | nil => rfl | cons => simp at h⟩
  | x :: xs, [], _, _, h => absurd (h x (List.mem_cons_self ..)) (by simp)
  | x :: xs, y :: ys, ha, hb, h => by
    rw [List.pairwise_cons] at ha hb
    have step : (∀ z, z ∈ xs → z ∈ ys) := by
      intro z hz
      rcases List.mem_cons.1 (h z (List.mem_cons_of_mem _ hz)) with e | e
      · subst e
        rcases List.mem_cons.1 (h x (List.mem_cons_self ..)) with e' | e'
        · have := ha.1 z hz; omega
        · have := ha.1 z hz; have := hb.1 x e'; omega
      · exact e
    have ih := sub_len ha.2 hb.2 step
    refine ⟨by simp only [List.length_cons]; omega, fun hl => ?_⟩
    simp only [List.length_cons] at hl
    have e := ih.2 (by omega)
    subst e
    rcases List.mem_cons.1 (h x (List.mem_cons_self ..)) with e' | e'
    · rw [e']
    · have := ha.1 x e'; omega
theorem oftStep_sub {o : List Int} {n : List (List Int)} {who : Int} {goal s : List Int} {x : Int} (h : x ∈ oftStep o n who goal s) : x ∈ s := attr_in (stay_sub h)
theorem oftStep_len {o : List Int} {n : List (List Int)} {who : Int} {goal s : List Int} (hs : setB s o.length = true) : (oftStep o n who goal s).length ≤ s.length ∧ (s.length ≤ (oftStep o n who goal s).length → oftStep o n who goal s = s) :=
  sub_len (rises_pair.1 (listM_rises _)) (rises_pair.1 (rises_set hs)) fun _ h => oftStep_sub h
/-- the reference stops where all have a rank: so does the program -/
theorem attr_len {o : List Int} {n : List (List Int)} {who : Int} {goal s : List Int} (hs : setB s o.length = true) : (attrL o n who s goal).length ≤ s.length ∧ (s.length ≤ (attrL o n who s goal).length → attrL o n who s goal = s) :=
  sub_len (rises_pair.1 (rises_set (attrL_set _ _ _ _ _))) (rises_pair.1 (rises_set hs)) fun _ h => attr_in h
theorem stay_id {o : List Int} {n : List (List Int)} {who : Int} {s : List Int} (hs : setB s o.length = true) (hc : shut o n who s) : listM (stayM o n who s) = s :=
  rises_ext (listM_rises _) (rises_set hs) fun x => ⟨fun h => stay_sub h, fun h => stay_sup (fun x hx => set_mem hs hx) hc (fun _ h => h) h⟩
theorem oft_end {o : List Int} {n : List (List Int)} {who : Int} {goal s : List Int} (hs : setB s o.length = true) (hc : shut o n who s) : attrL o n who s goal = s ↔ oftStep o n who goal s = s := by
  constructor
  · intro h
    unfold oftStep
    rw [h]; exact stay_id hs hc
  · intro h
    refine rises_ext (rises_set (attrL_set _ _ _ _ _)) (rises_set hs) fun x => ⟨fun h => attr_in h, fun hx => ?_⟩
    rw [← h] at hx
    exact stay_sub hx
noncomputable def oftR (o : List Int) (n : List (List Int)) (who : Int) (goal : List Int) : List Int := if okA o n who goal = true then oftL o n who goal else []
theorem oft_ex (o : List Int) (n : List (List Int)) (who : Int) (goal : List Int) : ∃ R, isOft o n who goal R := by
  have key : ∀ c t, (oftS o n who goal t).length ≤ c → ∃ R, isOft o n who goal R := by
    intro c
    induction c with
    | zero =>
      intro t ht
      exact ⟨_, t, rfl, (oftStep_len (oftS_set _ _ _ _ _)).2 (by omega)⟩
    | succ c ih =>
      intro t ht
      have h := oftStep_len (o := o) (n := n) (who := who) (goal := goal) (oftS_set o n who goal t)
      by_cases e : (oftS o n who goal t).length ≤ (oftStep o n who goal (oftS o n who goal t)).length
      · exact ⟨_, t, rfl, h.2 e⟩
      · exact ih (t + 1) (by rw [oftS]; omega)
  exact key _ 0 (Nat.le_refl _)
theorem oftL_is (o : List Int) (n : List (List Int)) (who : Int) (goal : List Int) : isOft o n who goal (oftL o n who goal) := by
  obtain ⟨R, h⟩ := oft_ex o n who goal
  rw [← h.is]; exact h
theorem oftL_set (o : List Int) (n : List (List Int)) (who : Int) (goal : List Int) : setB (oftL o n who goal) o.length = true := by
  obtain ⟨k, e, _⟩ := oftL_is o n who goal
  rw [e]; exact oftS_set _ _ _ _ _
theorem oftR_len (z : ArD) (who : Int) (s : List Int) : (oftR z.1 z.2 who s).length ≤ 256 := by
  unfold oftR
  split
  · rename_i h
    have h1 := (fineAr_of (okA_parts h).1).2.1
    have h2 := set_len (oftL_set z.1 z.2 who s) (by omega)
    omega
  · simp

/-! ### first choices, ranks -/
theorem firstU_is {al : Nat → Bool} {ns : List Int} : ∀ {k : Nat}, 0 ≤ firstU al ns k → al (firstU al ns k).toNat = true
  | 0, h => by simp [firstU] at h
  | k + 1, h => by
    rw [firstU] at h ⊢
    split at h
    · rename_i h1
      rw [if_pos h1]
      split at h
      · rename_i h2
        rw [if_pos h2]; exact h2
      · omega
    · rename_i h1
      rw [if_neg h1]
      exact firstU_is h
theorem firstU_some {al : Nat → Bool} {ns : List Int} : ∀ {k : Nat}, (∀ j, j < k → 0 ≤ gi ns j) → (∃ j, j < k ∧ al (gi ns j).toNat = true) → 0 ≤ firstU al ns k
  | 0, _, ⟨j, hj, _⟩ => absurd hj (by omega)
  | k + 1, h0, ⟨j, hj, ha⟩ => by
    rw [firstU]
    by_cases e : firstU al ns k < 0
    · rw [if_pos e]
      by_cases ej : j = k
      · subst ej
        rw [if_pos ha]; exact h0 j (by omega)
      · have := firstU_some (fun i hi => h0 i (by omega)) ⟨j, show j < k by omega, ha⟩
        omega
    · rw [if_neg e]; omega
section
variable {o : List Int} {n : List (List Int)} {who : Int} {goal : List Int}
theorem rank_goal {inn : List Int} {v : Nat} (hv : v < o.length) (hg : (v : Int) ∈ goal) (hi : (v : Int) ∈ inn) : gi (ranksL o n who inn goal) v = 0 := by
  obtain ⟨k, hk, _⟩ := ranksL_is o n who inn goal
  rw [hk]
  clear hk
  induction k with
  | zero =>
    rw [rnks]; unfold rnk0
    rw [fill_at hv, if_pos (hasL_iff.2 hg), if_pos ((mkM_iff hv).2 hi)]
  | succ k ih =>
    rw [rnks]; unfold rnkS
    rw [fill_at hv, if_pos (hasL_iff.2 hi), if_neg, ih]
    unfold rnkC
    rw [ih]; simp
theorem rank_zero {inn : List Int} {v : Nat} (hv : v < o.length) (h : gi (ranksL o n who inn goal) v = 0) : (v : Int) ∈ goal := by
  obtain ⟨k, hk, _⟩ := ranksL_is o n who inn goal
  rw [hk] at h
  clear hk
  induction k with
  | zero =>
    rw [rnks] at h; unfold rnk0 at h
    rw [fill_at hv] at h
    by_cases hg : hasL goal (v : Int) = true
    · exact hasL_iff.1 hg
    · rw [if_neg hg] at h; omega
  | succ k ih =>
    have h2 := rnks_old hv (show gi (rnks o n who inn goal o.length (k + 1)) v ≤ (k : Int) by omega)
    exact ih (by rw [h2]; exact h)
end
end Go.Proofs.Ytlmhhnplacejkaa
