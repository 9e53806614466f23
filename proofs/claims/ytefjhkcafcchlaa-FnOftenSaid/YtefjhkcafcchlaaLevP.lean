/- Levels, in plain words: following the plan, the level never rises, and falls where the vertex is not safe. No function of the program is named here. -/
import Derived.Test.YtefjhkcafcchlaaOftP
import Derived.Test.YtefjhkcafcchlaaLevels4
namespace Go.Proofs.Ytefjhkcafcchlaa
open Go.RowKit

theorem lvlUp_full {r : List Bool} {l : Int} {L : List Int} {j : Nat} : ∀ {k : Nat}, j < k → k ≤ L.length → gi (lvlUp r l L k) j = if gb r j = true ∧ gi L j < 0 then l else gi L j
  | 0, h, _ => absurd h (by omega)
  | k + 1, h, hk => by
    by_cases e : j = k
    · subst e
      by_cases hc : gb r j = true ∧ gi L j < 0
      · rw [lvlUp_hit hc.1 hc.2, if_pos hc]
        have hl : j < (lvlUp r l L j).length := by rw [lvlUp_len]; omega
        unfold gi
        rw [List.getD_eq_getElem?_getD, List.getElem?_set_self hl]; rfl
      · rw [lvlUp_off hc, if_neg hc, lvlUp_at (Nat.le_refl _)]
    · by_cases hc : gb r k = true ∧ gi L k < 0
      · rw [lvlUp_hit hc.1 hc.2, gi_set_ne (by omega)]
        exact lvlUp_full (by omega) (by omega)
      · rw [lvlUp_off hc]
        exact lvlUp_full (by omega) (by omega)
section
variable {o : List Int} {n : List (List Int)} {who : Int} {sf : List Bool} {m : Nat}
theorem lvls_step {t j : Nat} (hj : j < m) : gi (lvls o n who sf m (t + 1)) j = if gb (lvlSet o n who sf m (lvls o n who sf m t)) j = true ∧ gi (lvls o n who sf m t) j < 0 then (t : Int) else gi (lvls o n who sf m t) j := by
  rw [lvls]
  exact lvlUp_full hj (by rw [lvls_len]; exact Nat.le_refl _)
theorem lvls_keep {t j : Nat} (hj : j < m) (h : 0 ≤ gi (lvls o n who sf m t) j) : ∀ d, gi (lvls o n who sf m (t + d)) j = gi (lvls o n who sf m t) j
  | 0 => rfl
  | d + 1 => by
    rw [← Nat.add_assoc, lvls_step hj, lvls_keep hj h d, if_neg (fun c => by omega)]
theorem lvls_lt {j : Nat} (hj : j < m) : ∀ {t : Nat}, gi (lvls o n who sf m t) j < (t : Int)
  | 0 => by
    rw [lvls]
    unfold negL
    rw [fill_at hj]; omega
  | t + 1 => by
    rw [lvls_step hj]
    have := lvls_lt hj (t := t)
    split <;> omega
theorem lvls_at {j l : Nat} (hj : j < m) : ∀ {t : Nat}, gi (lvls o n who sf m t) j = (l : Int) → l < t ∧ gb (lvlSet o n who sf m (lvls o n who sf m l)) j = true ∧ gi (lvls o n who sf m l) j < 0
  | 0, h => by
    rw [lvls] at h
    unfold negL at h
    rw [fill_at hj] at h; omega
  | t + 1, h => by
    rw [lvls_step hj] at h
    split at h
    · rename_i hc
      have e : t = l := by omega
      subst e
      exact ⟨Nat.lt_succ_self _, hc⟩
    · obtain ⟨h1, h2⟩ := lvls_at hj h
      exact ⟨by omega, h2⟩
theorem lvls_in {u l t : Nat} (hu : u < m) (hl : l < t) (h : gb (lvlSet o n who sf m (lvls o n who sf m l)) u = true) : 0 ≤ gi (lvls o n who sf m t) u ∧ gi (lvls o n who sf m t) u ≤ (l : Int) := by
  have h1 : 0 ≤ gi (lvls o n who sf m (l + 1)) u ∧ gi (lvls o n who sf m (l + 1)) u ≤ (l : Int) := by
    rw [lvls_step hu]
    have := lvls_lt hu (o := o) (n := n) (who := who) (sf := sf) (t := l)
    split
    · omega
    · rename_i hc
      have : ¬ gi (lvls o n who sf m l) u < 0 := fun c => hc ⟨h, c⟩
      omega
  have h2 := lvls_keep hu h1.1 (t - (l + 1))
  rw [show l + 1 + (t - (l + 1)) = t by omega] at h2
  rw [h2]; exact h1
theorem lvls_low {u l t : Nat} (hu : u < m) (hl : l < t) (h : gb (lowM (lvls o n who sf m l)) u = true) : 0 ≤ gi (lvls o n who sf m t) u ∧ gi (lvls o n who sf m t) u < (l : Int) := by
  rw [lowM_at (by rw [lvls_len]; exact hu)] at h
  have h0 := of_decide_eq_true h
  have h2 := lvls_keep hu h0 (t - l)
  rw [show l + (t - l) = t by omega] at h2
  rw [h2]
  exact ⟨h0, lvls_lt hu⟩
end
theorem levels_law {o : List Int} {n : List (List Int)} {who : Int} {s : List Int} {v k : Nat} (hf : fineAr o n) (hv : v < o.length) (hk : k < (gl n v).length) (h0 : 0 ≤ gi (levelsL o n who s) v)
    (hc : gi o v = who → planV o n who (levelsL o n who s) v = gi (gl n v) k) :
    0 ≤ gi (levelsL o n who s) (gi (gl n v) k).toNat ∧ gi (levelsL o n who s) (gi (gl n v) k).toNat ≤ gi (levelsL o n who s) v ∧ (gi (levelsL o n who s) (gi (gl n v) k).toNat = gi (levelsL o n who s) v → hasL s (v : Int) = true) := by
  obtain ⟨T, hT, hend⟩ : isLvl o n who (mkM o.length s) o.length (levelsL o n who s) := by
    obtain ⟨r, h⟩ := lvlE_ex o n who (mkM o.length s) o.length
    unfold levelsL
    rw [← h.is]; exact h
  obtain ⟨l, hl⟩ := Int.eq_ofNat_of_zero_le h0
  have hset := (hf.2.2.2 v hv).2.2
  have hin : ∀ j, j < (gl n v).length → (gi (gl n v) j).toNat < o.length ∧ ((gi (gl n v) j).toNat : Int) = gi (gl n v) j := fun j hj => setB_nat hset hj
  have hl' := hl
  rw [hT] at hl'
  obtain ⟨hlT, hR, hneg⟩ := lvls_at hv hl'
  have hkept := gfp_closed (by simp) hv hR
  -- what lies below, what lies within
  have low : ∀ u, u < o.length → gb (lowM (lvls o n who (mkM o.length s) o.length l)) u = true → 0 ≤ gi (levelsL o n who s) u ∧ gi (levelsL o n who s) u < (l : Int) := fun u hu h => by rw [hT]; exact lvls_low hu hlT h
  have inn : ∀ u, u < o.length → gb (lvlSet o n who (mkM o.length s) o.length (lvls o n who (mkM o.length s) o.length l)) u = true → 0 ≤ gi (levelsL o n who s) u ∧ gi (levelsL o n who s) u ≤ (l : Int) := fun u hu h => by rw [hT]; exact lvls_in hu hlT h
  have hcase : intoB o n who (lowM (lvls o n who (mkM o.length s) o.length l)) v = true ∨ (hasL s (v : Int) = true ∧ intoB o n who (lvlSet o n who (mkM o.length s) o.length (lvls o n who (mkM o.length s) o.length l)) v = true) := by
    unfold keptL at hkept
    rw [Bool.or_eq_true, Bool.and_eq_true] at hkept
    rcases hkept with h | ⟨h1, h2⟩
    · exact .inl h
    · exact .inr ⟨by rw [mkM_at hv] at h1; exact h1, h2⟩
  rw [hl]
  by_cases hown : gi o v = who
  · have hp := hc hown
    have hLL : (levelsL o n who s).length = o.length := levelsL_len _ _ _ _
    have hlow : gb (lowM (levelsL o n who s)) v = true := by rw [lowM_at (by rw [hLL]; exact hv)]; exact decide_eq_true h0
    have hge : ∀ j, j < (gl n v).length → 0 ≤ gi (gl n v) j := fun j hj => by have := (hin j hj).2; omega
    have e1 : leastV o n who (lowM (levelsL o n who s)) (alLess (levelsL o n who s)) v = firstU (alLess (levelsL o n who s) v) (gl n v) (gl n v).length := by unfold leastV; rw [if_pos ⟨hlow, hown⟩]
    have e2 : leastV o n who (lowM (levelsL o n who s)) (alSame (levelsL o n who s)) v = firstU (alSame (levelsL o n who s) v) (gl n v) (gl n v).length := by unfold leastV; rw [if_pos ⟨hlow, hown⟩]
    unfold planV at hp
    rw [e1, e2] at hp
    by_cases hx : firstU (alLess (levelsL o n who s) v) (gl n v) (gl n v).length < 0
    · rw [if_pos hx] at hp
      -- none is less: safe, and the same level
      have hno : ¬ ∃ j, j < (gl n v).length ∧ alLess (levelsL o n who s) v (gi (gl n v) j).toNat = true := fun h => by have := firstU_some hge h; omega
      have hsafe : hasL s (v : Int) = true := by
        rcases hcase with h | h
        · exfalso
          obtain ⟨j, hj, hg⟩ := (intoB_mine hown).1 h
          obtain ⟨b0, b1⟩ := low _ (hin j hj).1 hg
          refine hno ⟨j, hj, ?_⟩
          unfold alLess
          rw [lowM_at (by rw [hLL]; exact (hin j hj).1), decide_eq_true b0, Bool.true_and]
          exact decide_eq_true (by omega)
        · exact h.1
      have hg0 := hge k hk
      have hs := firstU_is (al := alSame (levelsL o n who s) v) (ns := gl n v) (k := (gl n v).length) (by rw [hp]; exact hg0)
      rw [hp] at hs
      unfold alSame at hs
      have hs' : gi (levelsL o n who s) (gi (gl n v) k).toNat = gi (levelsL o n who s) v := by simpa using hs
      rw [hs', hl]
      exact ⟨by omega, Int.le_refl _, fun _ => hsafe⟩
    · rw [if_neg hx] at hp
      have hs := firstU_is (al := alLess (levelsL o n who s) v) (ns := gl n v) (k := (gl n v).length) (by omega)
      rw [hp] at hs
      unfold alLess at hs
      rw [Bool.and_eq_true] at hs
      have h1 := of_decide_eq_true hs.2
      have h2 := hs.1
      rw [lowM_at (by rw [hLL]; exact (hin k hk).1)] at h2
      have h3 := of_decide_eq_true h2
      exact ⟨h3, by omega, fun e => by omega⟩
  · rcases hcase with h | ⟨h1, h⟩
    · have hg := (intoB_yours hown).1 h k hk
      obtain ⟨b0, b1⟩ := low _ (hin k hk).1 hg
      exact ⟨b0, by omega, fun e => by omega⟩
    · have hg := (intoB_yours hown).1 h k hk
      obtain ⟨b0, b1⟩ := inn _ (hin k hk).1 hg
      exact ⟨b0, b1, fun _ => h1⟩
end Go.Proofs.Ytefjhkcafcchlaa
