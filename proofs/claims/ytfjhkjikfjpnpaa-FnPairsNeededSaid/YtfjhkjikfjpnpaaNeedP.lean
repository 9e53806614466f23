/- Needed pairs, in plain words: the same sets satisfy them. No function of the program is named here. -/
import Derived.Test.YtfjhkjikfjpnpaaNeeded
import Derived.Test.YtfjhkjikfjpnpaaBroken2
import Derived.Test.YtfjhkjikfjpnpaaDiceS
namespace Go.Proofs.Ytfjhkjikfjpnpaa
open Go.RowKit

theorem needed_old {ps : List PairD} : ∀ {k i : Nat}, i < (neededUp ps k).length → ∃ j, j < k ∧ gp (neededUp ps k) i = gp ps j
  | 0, i, h => absurd h (by simp [neededUp])
  | k + 1, i, h => by
    by_cases hn : neededB ps k = true
    · rw [neededUp_yes hn] at h ⊢
      rw [List.length_append, List.length_singleton] at h
      by_cases e : i < (neededUp ps k).length
      · obtain ⟨j, hj, hg⟩ := needed_old e
        exact ⟨j, by omega, by rw [gp_app_lt e]; exact hg⟩
      · obtain rfl : i = (neededUp ps k).length := by omega
        exact ⟨k, by omega, by rw [gp_app_eq]⟩
    · have hn' : neededB ps k = false := by simpa using hn
      rw [neededUp_no hn'] at h ⊢
      obtain ⟨j, hj, hg⟩ := needed_old h
      exact ⟨j, by omega, hg⟩
theorem needed_has {ps : List PairD} {j : Nat} (hb : neededB ps j = true) : ∀ {k : Nat}, j < k → ∃ i, i < (neededUp ps k).length ∧ gp (neededUp ps k) i = gp ps j
  | 0, h => absurd h (by omega)
  | k + 1, h => by
    by_cases hn : neededB ps k = true
    · rw [neededUp_yes hn, List.length_append, List.length_singleton]
      by_cases e : j < k
      · obtain ⟨i, hi, hg⟩ := needed_has hb e
        exact ⟨i, by omega, by rw [gp_app_lt hi]; exact hg⟩
      · obtain rfl : j = k := by omega
        exact ⟨_, Nat.lt_succ_self _, by rw [gp_app_eq]⟩
    · have hn' : neededB ps k = false := by simpa using hn
      rw [neededUp_no hn']
      have e : j ≠ k := fun e => by rw [e] at hb; exact hn hb
      exact needed_has hb (by omega)
theorem outUp_of {a b : List Int} {j : Nat} (h : hasL b (gi a j) = false) : ∀ {k : Nat}, j < k → outUp a b k = true
  | 0, hk => absurd hk (by omega)
  | k + 1, hk => by
    rw [outUp]
    by_cases e : j = k
    · rw [← e, h]; simp
    · rw [outUp_of h (by omega)]; rfl
theorem newUp_of {ps : List PairD} {i : Nat} : ∀ {k : Nat}, newUp ps i k = false → ∃ j, j < k ∧ eqPD (gp ps j) (gp ps i) = true
  | 0, h => by simp [newUp] at h
  | k + 1, h => by
    rw [newUp, Bool.and_eq_false_iff] at h
    rcases h with h | h
    · obtain ⟨j, hj, e⟩ := newUp_of h
      exact ⟨j, by omega, e⟩
    · exact ⟨k, by omega, by simpa using h⟩
theorem eqPD_parts {p q : PairD} (h : eqPD p q = true) : p.1 = q.1 ∧ p.2 = q.2 := by
  unfold eqPD eqL at h
  rw [Bool.and_eq_true] at h
  exact ⟨of_decide_eq_true h.1, of_decide_eq_true h.2⟩
theorem brokenAt_parts {ps : List PairD} {met : List Int} {i : Nat} : brokenAt ps met i = true ↔ meetB (gp ps i).1 met = true ∧ meetB (gp ps i).2 met = false := by
  unfold brokenAt
  rw [Bool.and_eq_true]
  simp
/-- a violated pair has a needed one of the same sets -/
theorem needed_broken {ps : List PairD} {met : List Int} : ∀ i, brokenAt ps met i = true → ∃ j, j ≤ i ∧ neededB ps j = true ∧ brokenAt ps met j = true := by
  intro i
  induction i using Nat.strongRecOn with
  | _ i ih =>
    intro hb
    obtain ⟨h1, h2⟩ := brokenAt_parts.1 hb
    have hout : outUp (gp ps i).1 (gp ps i).2 (gp ps i).1.length = true := by
      obtain ⟨x, hx1, hx2⟩ := of_decide_eq_true h1
      obtain ⟨j, hj, rfl⟩ := mem_gi hx1
      refine outUp_of (j := j) ?_ hj
      refine decide_eq_false fun hm => ?_
      exact of_decide_eq_false h2 ⟨_, hm, hx2⟩
    by_cases hn : newUp ps i i = true
    · exact ⟨i, Nat.le_refl _, by unfold neededB; rw [hout, hn]; rfl, hb⟩
    · obtain ⟨j, hj, e⟩ := newUp_of (by simpa using hn)
      obtain ⟨e1, e2⟩ := eqPD_parts e
      obtain ⟨q, hq, hqn, hqb⟩ := ih j hj (brokenAt_parts.2 ⟨by rw [e1]; exact h1, by rw [e2]; exact h2⟩)
      exact ⟨q, by omega, hqn, hqb⟩
theorem pick_none {p : Nat → Bool} {f : Nat → Int} : ∀ {n : Nat}, (pick p f n).length = 0 ↔ ∀ i, i < n → p i = false
  | 0 => by simp [pick]
  | n + 1 => by
    have ih := pick_none (p := p) (f := f) (n := n)
    by_cases h : p n = true
    · rw [pick_yes h, List.length_append, List.length_singleton]
      exact ⟨fun h => absurd h (by omega), fun h2 => absurd (h2 n (by omega)) (by rw [h]; decide)⟩
    · rw [pick_no (by simpa using h), ih]
      refine ⟨fun h2 i hi => ?_, fun h2 i hi => h2 i (by omega)⟩
      by_cases e : i = n
      · rw [e]; simpa using h
      · exact h2 i (by omega)
theorem broken_none {ps : List PairD} {met : List Int} : (brokenL ps met).length = 0 ↔ ∀ i, i < ps.length → brokenAt ps met i = false := pick_none

section
variable {ps : List PairD} {met : List Int} {n : Int}
theorem pairsB_up (hl : ps.length ≤ 4) (hs : ∀ i, i < ps.length → setB (gp ps i).1 n = true ∧ setB (gp ps i).2 n = true) {m : Int} (hm : n ≤ m) : pairsB ps m = true :=
  pairsB_of rfl hl fun i hi => by rw [setB_wide (hs i hi).1 hm, setB_wide (hs i hi).2 hm]; rfl
theorem neededR_is (hl : ps.length ≤ 4) (hs : ∀ i, i < ps.length → setB (gp ps i).1 n = true ∧ setB (gp ps i).2 n = true) (hn : n ≤ 256) : neededR ps = neededUp ps ps.length := by
  unfold neededR
  rw [if_pos (pairsB_up hl hs hn)]
theorem neededR_sets (hl : ps.length ≤ 4) (hs : ∀ i, i < ps.length → setB (gp ps i).1 n = true ∧ setB (gp ps i).2 n = true) (hn : n ≤ 256) :
    (neededR ps).length ≤ ps.length ∧ ∀ i, i < (neededR ps).length → setB (gp (neededR ps) i).1 n = true ∧ setB (gp (neededR ps) i).2 n = true := by
  rw [neededR_is hl hs hn]
  refine ⟨neededUp_len _ _, fun i hi => ?_⟩
  obtain ⟨j, hj, e⟩ := needed_old hi
  rw [e]
  exact hs j hj
theorem metW_is (hl : ps.length ≤ 4) (hs : ∀ i, i < ps.length → setB (gp ps i).1 n = true ∧ setB (gp ps i).2 n = true) (hn : n ≤ 256) (hm : setB met n = true) :
    metW ps met = ((brokenL ps met).length == 0) ∧ brokenR ps met = brokenL ps met := by
  have h : okPM ps met = true := by unfold okPM; rw [pairsB_up hl hs hn, setB_wide hm hn]; rfl
  unfold metW brokenR
  rw [h, if_pos rfl]
  exact ⟨rfl, rfl⟩
theorem needed_same (hl : ps.length ≤ 4) (hs : ∀ i, i < ps.length → setB (gp ps i).1 n = true ∧ setB (gp ps i).2 n = true) (hn : n ≤ 256) (hm : setB met n = true) :
    metW (neededR ps) met = metW ps met := by
  obtain ⟨l2, s2⟩ := neededR_sets hl hs hn
  rw [(metW_is (by omega) s2 hn hm).1, (metW_is hl hs hn hm).1]
  have e := neededR_is hl hs hn
  have key : (brokenL (neededR ps) met).length = 0 ↔ (brokenL ps met).length = 0 := by
    rw [broken_none, broken_none, e]
    refine ⟨fun h i hi => ?_, fun h i hi => ?_⟩
    · cases hb : brokenAt ps met i with
      | false => rfl
      | true =>
        obtain ⟨j, hj, hjn, hjb⟩ := needed_broken i hb
        obtain ⟨k, hk, ek⟩ := needed_has hjn (show j < ps.length by omega)
        have h3 := h k hk
        unfold brokenAt at h3 hjb
        rw [ek] at h3
        rw [h3] at hjb
        cases hjb
    · obtain ⟨j, hj, ej⟩ := needed_old hi
      have h3 := h j hj
      unfold brokenAt at h3 ⊢
      rw [ej]
      exact h3
  rcases Nat.eq_zero_or_pos (brokenL ps met).length with h | h
  · rw [h, key.2 h]
  · have h2 : (brokenL (neededR ps) met).length ≠ 0 := fun e => by have := key.1 e; omega
    rw [show ((brokenL (neededR ps) met).length == 0) = false by simpa using h2, show ((brokenL ps met).length == 0) = false by simp; intro e; rw [e] at h; simp at h]
end
end Go.Proofs.Ytfjhkjikfjpnpaa
