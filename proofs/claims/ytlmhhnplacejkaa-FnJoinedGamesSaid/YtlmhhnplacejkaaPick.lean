/- lists that a loop builds: element f i where p i holds. Plain. -/
import Derived.Test.YtlmhhnplacejkaaApp
namespace Go.Proofs.Ytlmhhnplacejkaa
open Go.RowKit

/-- what the loop 'for i < k: if p i then append f i' has built -/
def pick (p : Nat → Bool) (f : Nat → Int) : Nat → List Int
  | 0 => []
  | k + 1 => if p k = true then pick p f k ++ [f k] else pick p f k
theorem pick_zero (p : Nat → Bool) (f : Nat → Int) : pick p f 0 = [] := rfl
theorem pick_yes {p : Nat → Bool} {f : Nat → Int} {k : Nat} (h : p k = true) : pick p f (k + 1) = pick p f k ++ [f k] := by simp [pick, h]
theorem pick_no {p : Nat → Bool} {f : Nat → Int} {k : Nat} (h : p k = false) : pick p f (k + 1) = pick p f k := by simp [pick, h]
theorem pick_len (p : Nat → Bool) (f : Nat → Int) (k : Nat) : (pick p f k).length ≤ k := by
  induction k with
  | zero => simp [pick]
  | succ k ih =>
    unfold pick
    split
    · simp; omega
    · omega
theorem pick_congr {p q : Nat → Bool} {f g : Nat → Int} {n : Nat} (h : ∀ i, i < n → p i = q i ∧ (p i = true → f i = g i)) : pick p f n = pick q g n := by
  induction n with
  | zero => rfl
  | succ n ih =>
    have ih' := ih fun i hi => h i (by omega)
    obtain ⟨h1, h2⟩ := h n (by omega)
    by_cases e : p n = true
    · rw [pick_yes e, pick_yes (h1 ▸ e), ih', h2 e]
    · have e' : p n = false := by simpa using e
      rw [pick_no e', pick_no (h1 ▸ e'), ih']
theorem mem_pick {p : Nat → Bool} {f : Nat → Int} {n : Nat} {x : Int} : x ∈ pick p f n ↔ ∃ i, i < n ∧ p i = true ∧ f i = x := by
  induction n with
  | zero => simp [pick]
  | succ n ih =>
    by_cases e : p n = true
    · rw [pick_yes e, List.mem_append, ih]
      constructor
      · rintro (⟨i, hi, h⟩ | h)
        · exact ⟨i, by omega, h⟩
        · simp at h
          exact ⟨n, by omega, e, h.symm⟩
      · rintro ⟨i, hi, h1, h2⟩
        by_cases hin : i = n
        · subst hin; right; simp [h2]
        · left; exact ⟨i, by omega, h1, h2⟩
    · have e' : p n = false := by simpa using e
      rw [pick_no e', ih]
      constructor
      · rintro ⟨i, hi, h⟩; exact ⟨i, by omega, h⟩
      · rintro ⟨i, hi, h1, h2⟩
        have : i ≠ n := fun e2 => by subst e2; simp [h1] at e'
        exact ⟨i, by omega, h1, h2⟩
theorem pick_all {p : Nat → Bool} {f : Nat → Int} {n : Nat} (h : ∀ i, i < n → p i = true) : (pick p f n).length = n := by
  induction n with
  | zero => rfl
  | succ n ih => rw [pick_yes (h n (by omega)), List.length_append, ih fun i hi => h i (by omega)]; rfl
theorem pick_short {p : Nat → Bool} {f : Nat → Int} {n i : Nat} (hi : i < n) (h : p i = false) : (pick p f n).length < n := by
  induction n with
  | zero => omega
  | succ n ih =>
    have := pick_len p f n
    by_cases e : i = n
    · subst e; rw [pick_no h]; omega
    · have ih' := ih (by omega)
      by_cases e2 : p n = true
      · rw [pick_yes e2, List.length_append]; simp; omega
      · rw [pick_no (by simpa using e2)]; omega

/-- the elements of a that b lacks -/
def lessUp (a b : List Int) (k : Nat) : List Int := pick (fun i => !hasL b (gi a i)) (gi a) k
def lessL (a b : List Int) : List Int := lessUp a b a.length
/-- whether the two have an element in common -/
def meetB (a b : List Int) : Bool := decide (∃ x, x ∈ a ∧ x ∈ b)
theorem meetB_comm (a b : List Int) : meetB a b = meetB b a := by
  unfold meetB
  exact decide_eq_decide.2 ⟨fun ⟨x, h1, h2⟩ => ⟨x, h2, h1⟩, fun ⟨x, h1, h2⟩ => ⟨x, h2, h1⟩⟩
theorem lessL_meet (a b : List Int) : decide ((lessL a b).length < a.length) = meetB a b := by
  unfold lessL lessUp meetB
  refine decide_eq_decide.2 ⟨fun h => ?_, fun ⟨x, h1, h2⟩ => ?_⟩
  · by_cases e : ∃ i, i < a.length ∧ hasL b (gi a i) = true
    · obtain ⟨i, hi, e⟩ := e
      exact ⟨gi a i, gi_mem hi, of_decide_eq_true e⟩
    · have := pick_all (p := fun i => !hasL b (gi a i)) (f := gi a) (n := a.length) (fun i hi => by
        have : hasL b (gi a i) = false := by
          by_cases e3 : hasL b (gi a i) = true
          · exact absurd ⟨i, hi, e3⟩ e
          · simpa using e3
        simp [this])
      omega
  · obtain ⟨i, hi, rfl⟩ := mem_gi h1
    exact pick_short hi (by have : hasL b (gi a i) = true := decide_eq_true h2
                            simp [this])
theorem lessL_len (a b : List Int) : (lessL a b).length ≤ a.length := pick_len _ _ _
/-- 0, 1, .. n - 1 -/
def allL (n : Nat) : List Int := pick (fun _ => true) (fun i => (i : Int)) n
theorem allL_len (n : Nat) : (allL n).length = n := pick_all fun _ _ => rfl
theorem allL_succ (n : Nat) : allL (n + 1) = allL n ++ [(n : Int)] := pick_yes rfl
theorem gi_all {n i : Nat} (h : i < n) : gi (allL n) i = (i : Int) := by
  induction n with
  | zero => omega
  | succ n ih =>
    rw [allL_succ]
    unfold gi
    by_cases e : i = n
    · subst e
      rw [List.getD_eq_getElem?_getD, List.getElem?_append_right (by rw [allL_len]; omega), allL_len]
      simp
    · have := ih (by omega)
      unfold gi at this
      rw [List.getD_eq_getElem?_getD, List.getElem?_append_left (by rw [allL_len]; omega), ← List.getD_eq_getElem?_getD]
      exact this
end Go.Proofs.Ytlmhhnplacejkaa
