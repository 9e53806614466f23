/- Contracts: spec.RecordOk, impl.isRecord, impl.RecordOk, laws.toInt64S; the law FnExactRecordOk walked. -/
import Derived.Test.YtlmhhnplacejkaaLib
import Derived.Deep.OwnRows
namespace Go.Proofs.Ytlmhhnplacejkaa
open Go.RowKit

def recOk (xs : List Int) (k : Int) : Bool := decide (0 ≤ k ∧ k ≤ 4 ∧ (xs.length : Int) = k ∧ (∀ x ∈ xs, 0 ≤ x ∧ x < k) ∧ xs.Nodup)

theorem recOk_len {xs : List Int} {n : Nat} {k : Int} (hl : xs.length = n) (h : ¬ (n : Int) = k) : recOk xs k = false := by
  refine decide_eq_false fun ⟨_, _, h3, _⟩ => ?_
  rw [hl] at h3; exact h h3
theorem recOk_k {xs : List Int} {k : Int} (h : inR k 0 4 = false) : recOk xs k = false := by
  refine decide_eq_false fun ⟨h1, h2, _⟩ => ?_
  have := of_decide_eq_false h
  exact this ⟨h1, h2⟩
theorem recOk_in {xs : List Int} {n i : Nat} {k : Int} (hl : xs.length = n) (hi : i < n) (h : inR (gi xs i) 0 (k - 1) = false) : recOk xs k = false := by
  refine decide_eq_false fun ⟨_, _, _, h4, _⟩ => ?_
  have h5 := h4 _ (gi_mem (show i < xs.length by omega))
  have := of_decide_eq_false h
  omega
theorem nodup_take {xs : List Int} {i : Nat} (hi : i < xs.length) (h : gi xs i ∈ xs.take i) : ¬ xs.Nodup := by
  intro hn
  obtain ⟨j, hj, e⟩ := mem_gi h
  have hj' : j < i := by simp at hj; omega
  rw [gi_take hj', gi_get (by omega), gi_get hi] at e
  exact (List.pairwise_iff_getElem.1 hn) j i (by omega) hi hj' e
theorem recOk_has {xs : List Int} {n i : Nat} {k : Int} (hl : xs.length = n) (hi : i < n) (h : hasL (xs.take i) (gi xs i) = true) : recOk xs k = false :=
  decide_eq_false fun ⟨_, _, _, _, h5⟩ => nodup_take (by omega) (of_decide_eq_true h) h5
theorem nodup_of_take {xs : List Int} : ∀ i, i ≤ xs.length → (∀ j, j < i → gi xs j ∉ xs.take j) → (xs.take i).Nodup
  | 0, _, _ => by simp
  | i + 1, h, hh => by
    rw [take_gi h, List.nodup_append]
    refine ⟨nodup_of_take i (by omega) fun j hj => hh j (by omega), by simp, ?_⟩
    intro a ha b hb
    simp only [List.mem_singleton] at hb
    subst hb
    exact fun e => hh i (by omega) (e ▸ ha)
theorem recOk_of {xs : List Int} {n : Nat} {k : Int} (hl : xs.length = n) (hk : inR k 0 4 = true) (hn : (n : Int) = k)
    (h : ∀ j, j < n → inR (gi xs j) 0 (k - 1) = true ∧ hasL (xs.take j) (gi xs j) = false) : recOk xs k = true := by
  have := of_decide_eq_true hk
  refine decide_eq_true ⟨by omega, by omega, by omega, fun x hx => ?_, ?_⟩
  · obtain ⟨i, hi, rfl⟩ := mem_gi hx
    have := of_decide_eq_true (h i (by omega)).1
    omega
  · have := nodup_of_take xs.length (Nat.le_refl _) fun j hj => of_decide_eq_false (h j (by omega)).2
    rwa [List.take_length] at this

end Go.Proofs.Ytlmhhnplacejkaa
