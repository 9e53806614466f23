/- Marks: slices of bool that are read; markOf, l16Marks, listOf, l16List; moves, l15Into; canAttract, l15Right. -/
import Derived.Test.YtkhkdnmpbfmmeaaDoorArena
import Derived.Test.YtkhkdnmpbfmmeaaDoorLess
import Derived.OwnWalk
namespace Go.Proofs.YtkhkdnmpbfmmeaaDoor
open Go.RowKit

/-- a slice of bool that reads as a list -/
def RB (w : World) (A : Option Addr) (n c : Nat) (xs : List Bool) : Prop :=
  xs.length = n ∧ (n ≤ c ∧ c ≤ 9223372036854775807) ∧ ∀ i, i < n → ∃ b off, A = some ⟨b, off, none⟩ ∧ w.cell? ⟨b, off + i, none⟩ = some (.bool (gb xs i))
section
variable {w w' : World} {A : Option Addr} {n c : Nat} {xs : List Bool}
theorem RB.len (h : RB w A n c xs) : xs.length = n := h.1
theorem RB.cap (h : RB w A n c xs) : n ≤ c := h.2.1.1
theorem RB.top (h : RB w A n c xs) : c ≤ 9223372036854775807 := h.2.1.2
theorem RB.at_ (h : RB w A n c xs) {i : Nat} (hi : i < n) : ∃ b off, A = some ⟨b, off, none⟩ ∧ w.cell? ⟨b, off + i, none⟩ = some (.bool (gb xs i)) := h.2.2 i hi
theorem RB.keep (h : RB w A n c xs) (k : Keeps w w') : RB w' A n c xs :=
  ⟨h.1, h.2.1, fun i hi => by obtain ⟨b, off, e, hc⟩ := h.2.2 i hi; exact ⟨b, off, e, k _ _ hc⟩⟩
end
section
variable {E : TypeId} {w w' : World} {lo : Nat} {v : Value} {xs : List Bool}
theorem OB.form (h : OB E w lo v xs) : ∃ A c, v = .slice A xs.length c := by
  rcases h.2 with ⟨rfl, hn⟩ | ⟨g, cap, cur, rfl, _⟩
  · exact ⟨none, 0, by rw [hn]⟩
  · exact ⟨_, _, rfl⟩
theorem OB.reads {n c : Nat} {A : Option Addr} (h : OB E w lo (.slice A n c) xs) : RB w A n c xs := by
  have hn : n = xs.length ∧ n ≤ c ∧ c ≤ 9223372036854775807 := by
    rcases h.2 with ⟨h1, hn⟩ | ⟨g, cap, cur, h1, _, _, h2, h3, _⟩
    · injection h1 with _ h2 h3; omega
    · injection h1 with _ h4 h5; unfold maxLen at h3; omega
  obtain ⟨hn, hc⟩ := hn
  subst hn
  refine ⟨rfl, hc, fun i hi => ?_⟩
  rcases h.2 with ⟨h1, hn⟩ | ⟨g, cap, cur, h1, _⟩
  · omega
  · injection h1 with h1 h2 h3
    subst h1
    subst h3
    refine ⟨g, 0, rfl, ?_⟩
    rw [Nat.zero_add]
    exact h.at_ hi
theorem OB.drewN (h : OB E w lo v xs) (q : Nat) : OB E (w.drewN q) lo v xs := h
theorem OB.more {lo' : Nat} (h : OB E w lo v xs) (hl : lo' ≤ lo) : OB E w lo' v xs := row_more h hl
theorem OB.lt (h : OB E w lo v xs) : ∀ k, v.ownBlock = some k → lo ≤ k ∧ k < w.heap.size := World.ownsRow.lt h
theorem OB.empty {B : Nat} (hB : B ≤ w.heap.size) : OB E (w.alloc (.cells #[] E)) B (.slice (some ⟨w.heap.size, 0, none⟩) 0 0) [] := World.ownsRow_lit w #[] 0 hB (by decide) rfl
end
/-! ### marks of a set -/
theorem set_nat {s : List Int} {n : Nat} {k : Nat} (h : setB s (n : Int) = true) (hk : k < s.length) : ∃ m : Nat, gi s k = (m : Int) ∧ m < n := by
  obtain ⟨h1, h2, _⟩ := setB_true.1 h k hk
  exact ⟨(gi s k).toNat, by omega, by omega⟩

/-! ### the marks of a set, as a walk makes them -/
/-! ### the list of what is marked -/
/-! ### can a player move into marked vertices -/
/-- what the walks ask of an arena in order -/
def fineAr (o : List Int) (n : List (List Int)) : Prop := 1 ≤ o.length ∧ o.length ≤ 256 ∧ n.length = o.length ∧ ∀ v, v < o.length → (0 ≤ gi o v ∧ gi o v ≤ 1) ∧ (1 ≤ (gl n v).length ∧ (gl n v).length ≤ 16) ∧ setB (gl n v) (o.length : Int) = true
/-! ### the checks -/
end Go.Proofs.YtkhkdnmpbfmmeaaDoor
