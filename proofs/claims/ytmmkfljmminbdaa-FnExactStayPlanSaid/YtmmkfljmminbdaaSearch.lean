/- Library: slices.Index, slices.Contains, slices.BinarySearch at int64; cmp.Less. -/
import Derived.Test.YtmmkfljmminbdaaFn6
import Derived.Lib.SlicesSearch
namespace Go.Proofs.Ytmmkfljmminbdaa
open Go.RowKit

theorem firstI_neg {p : Nat → Bool} : ∀ {n : Nat}, firstI p n = -1 → ∀ j, j < n → p j = false
  | 0, _, j, hj => absurd hj (by omega)
  | n + 1, h, j, hj => by
    by_cases e : firstI p n = -1
    · rw [firstI, if_pos e] at h
      by_cases e2 : p n = true
      · rw [if_pos e2] at h; omega
      · rcases Nat.lt_or_ge j n with h3 | h3
        · exact firstI_neg e j h3
        · obtain rfl : j = n := by omega
          simpa using e2
    · rw [firstI, if_neg e] at h; exact absurd h e
theorem firstI_ge (p : Nat → Bool) (n : Nat) : -1 ≤ firstI p n := by
  induction n with
  | zero => simp [firstI]
  | succ n ih => unfold firstI; split <;> (try split) <;> omega
def ltB (x y : Int) : Bool := decide (x < y)
/-- at the loop's end: all below place i are less than x, all from i on are not -/
theorem has_at {xs : List Int} {x : Int} {n i : Nat} (hl : xs.length = n) (hs : ∀ i j, i < j → j < xs.length → gi xs i < gi xs j) (hi : i ≤ n) (h1 : ∀ j, j < i → gi xs j < x) (h2 : ∀ j, i ≤ j → j < n → x ≤ gi xs j) : hasL xs x = true ↔ (i < n ∧ gi xs i = x) := by
  constructor
  · intro h
    obtain ⟨j, hj, rfl⟩ := mem_gi (of_decide_eq_true h)
    have hij : i ≤ j := by
      rcases Nat.lt_or_ge j i with h3 | h3
      · have := h1 j h3; omega
      · exact h3
    by_cases e : i = j
    · subst e; exact ⟨by omega, rfl⟩
    · have := hs i j (by omega) hj
      have := h2 i (Nat.le_refl _) (by omega)
      omega
  · rintro ⟨h3, rfl⟩
    exact decide_eq_true (gi_mem (by omega))

end Go.Proofs.Ytmmkfljmminbdaa
