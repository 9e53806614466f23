/- The games by the dice of chapter 14 are in order: plain. -/
import Derived.Test.YtefjhkcafcchlaaDiceI
import Derived.Test.YtefjhkcafcchlaaArn
namespace Go.Proofs.Ytefjhkcafcchlaa
open Go.RowKit

theorem pg_lt {xs : List Int} {x : Int} {i : Nat} (h : i < xs.length) : gi (xs ++ [x]) i = gi xs i := by simp [gi, List.getElem?_append_left h]
theorem pg_eq {xs : List Int} {x : Int} : gi (xs ++ [x]) xs.length = x := by simp [gi]
theorem pl_eq {xs : List (List Int)} {x : List Int} : gl (xs ++ [x]) xs.length = x := by simp [gl]
theorem puts_row {s n : Int} {c : Nat} (hn : 1 ≤ n) (hc : 1 ≤ c) : 1 ≤ (putsL (drD s n c)).length ∧ (putsL (drD s n c)).length ≤ c ∧ setB (putsL (drD s n c)) n = true := by
  obtain ⟨p1, p2⟩ := putsL_asc (drD s n c)
  have hl := putsL_len (drD s n c)
  rw [drD_len] at hl
  refine ⟨?_, hl, setB_of_rises (rises_pair.2 p1) fun x hx => ?_⟩
  · refine List.length_pos_iff_exists_mem.2 ⟨gi (drD s n c) 0, (p2 _).2 (gi_mem (by rw [drD_len]; exact hc))⟩
  · have h1 := (p2 x).1 hx
    unfold drD at h1
    obtain ⟨i, _, rfl⟩ := List.mem_map.1 h1
    exact ⟨Int.emod_nonneg _ (by omega), Int.emod_lt_of_pos _ (by omega)⟩
theorem dice_fine {s0 p o : Int} {N : Nat} (h1 : 1 ≤ N) (hp : 1 ≤ p) (ho : 1 ≤ o ∧ o ≤ 16) : ∀ k, arUp (N : Int) ((diceUp s0 N p o k).1.1, (diceUp s0 N p o k).1.2.1) k ∧ (diceUp s0 N p o k).1.2.2.length = k ∧ (∀ v, v < k → 0 ≤ gi (diceUp s0 N p o k).1.2.2 v ∧ gi (diceUp s0 N p o k).1.2.2 v < p) ∧ ∀ v, v < k → ((gl (diceUp s0 N p o k).1.2.1 v).length : Int) ≤ o
  | 0 => ⟨arUp_zero _, rfl, fun v hv => absurd hv (by omega), fun v hv => absurd hv (by omega)⟩
  | k + 1 => by
    obtain ⟨i1, i2, i3, i4⟩ := dice_fine (s0 := s0) h1 hp ho k
    have hl := diceUp_len s0 N p o k
    have hcl := cntD_le (s := (diceUp s0 N p o k).2) ho
    have hce := cntD_eq (s := (diceUp s0 N p o k).2) ho.1
    have hmod := Int.emod_lt_of_pos (stD (diceUp s0 N p o k).2 3) (show 0 < o by omega)
    obtain ⟨r1, r2, r3⟩ := puts_row (s := stD (diceUp s0 N p o k).2 3) (n := (N : Int)) (c := cntD (diceUp s0 N p o k).2 o) (by omega) hcl.1
    rw [diceUp]
    unfold addV
    have e2 := Int.emod_nonneg (stD (diceUp s0 N p o k).2 1) (show (2 : Int) ≠ 0 by omega)
    have e3 := Int.emod_lt_of_pos (stD (diceUp s0 N p o k).2 1) (show (0 : Int) < 2 by omega)
    have e4 := Int.emod_nonneg (stD (diceUp s0 N p o k).2 2) (show p ≠ 0 by omega)
    have e5 := Int.emod_lt_of_pos (stD (diceUp s0 N p o k).2 2) (show 0 < p by omega)
    refine ⟨arUp_succ i1 ⟨e2, e3⟩ r1 r3, by simp [i2], fun v hv => ?_, fun v hv => ?_⟩
    · dsimp only
      by_cases e : v = k
      · subst e
        have := pg_eq (xs := (diceUp s0 N p o v).1.2.2) (x := stD (diceUp s0 N p o v).2 2 % p)
        rw [i2] at this
        rw [this]; exact ⟨e4, e5⟩
      · rw [pg_lt (by omega)]; exact i3 v (by omega)
    · dsimp only
      by_cases e : v = k
      · subst e
        have := pl_eq (xs := (diceUp s0 N p o v).1.2.1) (x := putsL (drD (stD (diceUp s0 N p o v).2 3) N (cntD (diceUp s0 N p o v).2 o)))
        rw [hl.2.1] at this
        rw [this]; omega
      · rw [gl_app_lt (by omega)]; exact i4 v (by omega)
theorem diceP_fine {s p o : Int} {N : Nat} (h1 : 1 ≤ N) (h2 : N ≤ 16) (hp : 1 ≤ p ∧ p ≤ 41) (ho : 1 ≤ o ∧ o ≤ 16) : okDice N p o = true ∧ parB (diceP s N p o) = true ∧ (diceP s N p o).2.1.length = N ∧ (diceP s N p o).2.2.length = N ∧ (∀ v, v < N → gi (diceP s N p o).2.2 v < p) ∧ ∀ v, v < N → ((gl (diceP s N p o).2.1 v).length : Int) ≤ o := by
  have hok : okDice N p o = true := by
    unfold okDice inR
    rw [decide_eq_true (show 1 ≤ (N : Int) ∧ (N : Int) ≤ 256 by omega), decide_eq_true hp, decide_eq_true ho]; rfl
  obtain ⟨i1, i2, i3, i4⟩ := dice_fine (s0 := seedD s) h1 hp.1 ho N
  have hl := diceUp_len (seedD s) N p o N
  rw [diceP_yes hok]
  refine ⟨hok, parB_yes (arUp_ok i1 h1 h2) ⟨by rw [hl.2.2, hl.1], fun i hi => ?_⟩, hl.2.1, hl.2.2, fun v hv => (i3 v hv).2, i4⟩
  rw [i2] at hi
  have := i3 i hi
  omega
theorem seed_shift {s : Int} (h : 0 ≤ s) : seedD (s + 999999937) = seedD s := by
  unfold seedD
  rw [Int.tmod_eq_emod_of_nonneg (by omega), Int.tmod_eq_emod_of_nonneg h]
  omega
theorem diceP_shift {s n p o : Int} (h : 0 ≤ s) : diceP (s + 999999937) n p o = diceP s n p o := by unfold diceP; rw [seed_shift h]
end Go.Proofs.Ytefjhkcafcchlaa
