/- lists that a loop builds: element f i where p i holds. Plain. -/
import Derived.Test.YtngadlpfheakiaaApp
namespace Go.Proofs.Ytngadlpfheakiaa
open Go.RowKit

/-- what the loop 'for i < k: if p i then append f i' has built -/
def pick (p : Nat → Bool) (f : Nat → Int) : Nat → List Int
  | 0 => []
  | k + 1 => if p k = true then pick p f k ++ [f k] else pick p f k
theorem pick_yes {p : Nat → Bool} {f : Nat → Int} {k : Nat} (h : p k = true) : pick p f (k + 1) = pick p f k ++ [f k] := by simp [pick, h]
theorem pick_no {p : Nat → Bool} {f : Nat → Int} {k : Nat} (h : p k = false) : pick p f (k + 1) = pick p f k := by simp [pick, h]
theorem pick_len (p : Nat → Bool) (f : Nat → Int) (k : Nat) : (pick p f k).length ≤ k := by
  induction k with
  | zero => simp [pick]
  | succ k ih =>
    unfold pick
    split
    · simp; omega
    · omega
theorem mem_pick {p : Nat → Bool} {f : Nat → Int} {n : Nat} {x : Int} : x ∈ pick p f n ↔ ∃ i, i < n ∧ p i = true ∧ f i = x := by
  induction n with
  | zero => simp [pick]
  | succ n ih =>
    by_cases e : p n = true
    · rw [pick_yes e, List.mem_append, ih]
      constructor
      · rintro (⟨i, hi, h⟩ | h)
        · exact ⟨i, by omega, h⟩
        · simp at h
          exact ⟨n, by omega, e, h.symm⟩
      · rintro ⟨i, hi, h1, h2⟩
        by_cases hin : i = n
        · subst hin; right; simp [h2]
        · left; exact ⟨i, by omega, h1, h2⟩
    · have e' : p n = false := by simpa using e
      rw [pick_no e', ih]
      constructor
      · rintro ⟨i, hi, h⟩; exact ⟨i, by omega, h⟩
      · rintro ⟨i, hi, h1, h2⟩
        have : i ≠ n := fun e2 => by subst e2; simp [h1] at e'
        exact ⟨i, by omega, h1, h2⟩
theorem pick_all {p : Nat → Bool} {f : Nat → Int} {n : Nat} (h : ∀ i, i < n → p i = true) : (pick p f n).length = n := by
  induction n with
  | zero => rfl
  | succ n ih => rw [pick_yes (h n (by omega)), List.length_append, ih fun i hi => h i (by omega)]; rfl
/-- the elements of a that b lacks -/
def lessUp (a b : List Int) (k : Nat) : List Int := pick (fun i => !hasL b (gi a i)) (gi a) k
def lessL (a b : List Int) : List Int := lessUp a b a.length
/-- 0, 1, .. n - 1 -/
def allL (n : Nat) : List Int := pick (fun _ => true) (fun i => (i : Int)) n
theorem allL_len (n : Nat) : (allL n).length = n := pick_all fun _ _ => rfl
theorem allL_succ (n : Nat) : allL (n + 1) = allL n ++ [(n : Int)] := pick_yes rfl
theorem gi_all {n i : Nat} (h : i < n) : gi (allL n) i = (i : Int) := by
  induction n with
  | zero => omega
  | succ n ih =>
    rw [allL_succ]
    unfold gi
    by_cases e : i = n
    · subst e
      rw [List.getD_eq_getElem?_getD, List.getElem?_append_right (by rw [allL_len]; omega), allL_len]
      simp
    · have := ih (by omega)
      unfold gi at this
      rw [List.getD_eq_getElem?_getD, List.getElem?_append_left (by rw [allL_len]; omega), ← List.getD_eq_getElem?_getD]
      exact this
end Go.Proofs.Ytngadlpfheakiaa
