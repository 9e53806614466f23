/- What is met again and again: one round of the program's way and one round of the reference's leave the same set. Plain. -/
import Derived.Test.YtngadlpfheakiaaPull
import Derived.Test.YtngadlpfheakiaaPlan2
namespace Go.Proofs.Ytngadlpfheakiaa
open Go.RowKit

/-! ### rising lists -/
theorem rises_pair {xs : List Int} : rises xs ↔ xs.Pairwise (· < ·) := by
  rw [List.pairwise_iff_getElem]
  unfold rises
  constructor
  · intro h i j hi hj hij
    have := h i j hij hj
    rwa [gi_get hi, gi_get hj] at this
  · intro h i j hij hj
    rw [gi_get (by omega), gi_get hj]
    exact h i j (by omega) hj hij
theorem pair_ext : ∀ {a b : List Int}, a.Pairwise (· < ·) → b.Pairwise (· < ·) → (∀ x, x ∈ a ↔ x ∈ b) → a = b
  | [], [], _, _, _ => rfl
  | [], y :: ys, _, _, h => absurd ((h y).2 (List.mem_cons_self ..)) (by simp)
  | x :: xs, [], _, _, h => absurd ((h x).1 (List.mem_cons_self ..)) (by simp)
  | x :: xs, y :: ys, ha, hb, h => by
    rw [List.pairwise_cons] at ha hb
    have e : x = y := by
      rcases List.mem_cons.1 ((h x).1 (List.mem_cons_self ..)) with e | e
      · exact e
      · rcases List.mem_cons.1 ((h y).2 (List.mem_cons_self ..)) with e' | e'
        · exact e'.symm
        · have := hb.1 x e; have := ha.1 y e'; omega
    subst e
    rw [pair_ext ha.2 hb.2 fun z => ?_]
    have hz := h z
    rw [List.mem_cons, List.mem_cons] at hz
    constructor
    · intro m
      rcases hz.1 (.inr m) with e | e
      · have := ha.1 z m; omega
      · exact e
    · intro m
      rcases hz.2 (.inr m) with e | e
      · have := hb.1 z m; omega
      · exact e
theorem setB_of_rises {xs : List Int} {n : Int} (h : rises xs) (hb : ∀ x, x ∈ xs → 0 ≤ x ∧ x < n) : setB xs n = true := setB_true.2 fun i hi => by
  refine ⟨(hb _ (gi_mem hi)).1, (hb _ (gi_mem hi)).2, fun h0 => h _ _ (by omega) hi⟩
theorem set_mem {xs : List Int} {n : Int} (h : setB xs n = true) {x : Int} (hx : x ∈ xs) : 0 ≤ x ∧ x < n := by
  obtain ⟨i, hi, rfl⟩ := mem_gi hx
  have := setB_true.1 h i hi
  exact ⟨this.1, this.2.1⟩
theorem mem_listM {ms : List Bool} {x : Int} : x ∈ listM ms ↔ ∃ v : Nat, v < ms.length ∧ gb ms v = true ∧ (v : Int) = x := mem_pick
theorem hasL_iff {xs : List Int} {x : Int} : hasL xs x = true ↔ x ∈ xs := decide_eq_true_iff
/-! ### the greatest set -/
/-! ### a step into a set -/
/-! ### the attractor -/
/-! ### the rounds -/
/-- one round -/
noncomputable def oftStep (o : List Int) (n : List (List Int)) (who : Int) (goal s : List Int) : List Int := listM (stayM o n who (attrL o n who s goal))
theorem gb_lt {ms : List Bool} {v : Nat} (h : gb ms v = true) : v < ms.length := by
  rcases Nat.lt_or_ge v ms.length with h1 | h1
  · exact h1
  · unfold gb at h; rw [List.getD_eq_getElem?_getD, List.getElem?_eq_none h1] at h; cases h
/-- the rounds -/
noncomputable def oftS (o : List Int) (n : List (List Int)) (who : Int) (goal : List Int) : Nat → List Int
  | 0 => allL o.length
  | k + 1 => oftStep o n who goal (oftS o n who goal k)
def isOft (o : List Int) (n : List (List Int)) (who : Int) (goal R : List Int) : Prop := ∃ k, R = oftS o n who goal k ∧ oftStep o n who goal R = R
theorem oftS_fix {o : List Int} {n : List (List Int)} {who : Int} {goal : List Int} {k : Nat} (h : oftStep o n who goal (oftS o n who goal k) = oftS o n who goal k) : ∀ d, oftS o n who goal (k + d) = oftS o n who goal k
  | 0 => rfl
  | d + 1 => by rw [← Nat.add_assoc, oftS, oftS_fix h d, h]
theorem isOft.eq {o : List Int} {n : List (List Int)} {who : Int} {goal r r' : List Int} (h : isOft o n who goal r) (h' : isOft o n who goal r') : r = r' := by
  obtain ⟨t, rfl, hf⟩ := h
  obtain ⟨t', rfl, hf'⟩ := h'
  rcases Nat.le_total t t' with hl | hl
  · have := oftS_fix hf (t' - t)
    rw [show t + (t' - t) = t' from by omega] at this
    exact this.symm
  · have := oftS_fix hf' (t - t')
    rw [show t' + (t - t') = t from by omega] at this
    exact this
noncomputable def oftL (o : List Int) (n : List (List Int)) (who : Int) (goal : List Int) : List Int := @Classical.epsilon _ ⟨[]⟩ (isOft o n who goal)
theorem isOft.is {o : List Int} {n : List (List Int)} {who : Int} {goal r : List Int} (h : isOft o n who goal r) : r = oftL o n who goal := h.eq (@Classical.epsilon_spec _ (isOft o n who goal) ⟨r, h⟩)
/-! ### first choices, ranks -/
section
variable {o : List Int} {n : List (List Int)} {who : Int} {goal : List Int}
end
end Go.Proofs.Ytngadlpfheakiaa
