/- The attractor's plan: pullIn, PullIn; ReachPlan. -/
import Derived.Test.YtlmhhnplacejkaaAttr
import Derived.Test.YtlmhhnplacejkaaPlan2
namespace Go.Proofs.Ytlmhhnplacejkaa
open Go.RowKit

def pullA (ins : List Bool) (rk : List Int) (v u : Nat) : Bool := gb ins u && (gi rk u == gi rk v - 1)
def pullV (o : List Int) (n : List (List Int)) (who : Int) (ins : List Bool) (rk : List Int) (v : Nat) : Int := if 1 ≤ gi rk v ∧ gi o v = who then firstU (pullA ins rk v) (gl n v) (gl n v).length else -1
noncomputable def pullL (o : List Int) (n : List (List Int)) (who : Int) (inn goal : List Int) : List Int := fill (pullV o n who (mkM o.length inn) (ranksL o n who inn goal)) o.length
noncomputable def pullR (o : List Int) (n : List (List Int)) (who : Int) (inn goal : List Int) : List Int := if (okA o n who inn && okA o n who goal) = true then pullL o n who inn goal else []
theorem pullR_no {o : List Int} {n : List (List Int)} {who : Int} {inn goal : List Int} (h : (okA o n who inn && okA o n who goal) = false) : pullR o n who inn goal = [] := by unfold pullR; rw [if_neg (by rw [h]; decide)]
theorem pullR_yes {o : List Int} {n : List (List Int)} {who : Int} {inn goal : List Int} (h1 : okA o n who inn = true) (h2 : okA o n who goal = true) : pullR o n who inn goal = pullL o n who inn goal := if_pos (by rw [h1, h2]; rfl)
noncomputable def reachPlanR (o : List Int) (n : List (List Int)) (who : Int) (goal : List Int) : List Int := if okA o n who goal = true then pullL o n who (allL o.length) goal else []
theorem pullL_len (o : List Int) (n : List (List Int)) (who : Int) (inn goal : List Int) : (pullL o n who inn goal).length = o.length := fill_len _ _
theorem reachPlanR_len (z : ArD) (who : Int) (s : List Int) : (reachPlanR z.1 z.2 who s).length ≤ 256 := by
  unfold reachPlanR
  split
  · rename_i h
    have := (fineAr_of (okA_parts h).1).2.1
    rw [pullL_len]; exact this
  · simp
/-- what has a rank is in the set -/
theorem rnks_in {o : List Int} {n : List (List Int)} {who : Int} {inn goal : List Int} {m : Nat} : ∀ {k u : Nat}, u < m → 0 ≤ gi (rnks o n who inn goal m k) u → gb (mkM m inn) u = true
  | 0, u, hu, h => by
    rw [rnks] at h; unfold rnk0 at h
    rw [fill_at hu] at h
    split at h
    · split at h
      · assumption
      · omega
    · omega
  | k + 1, u, hu, h => by
    rw [rnks] at h; unfold rnkS at h
    rw [fill_at hu] at h
    split at h
    · rename_i h1
      rw [mkM_at hu]; exact h1
    · exact rnks_in hu h
theorem ranksL_in {o : List Int} {n : List (List Int)} {who : Int} {inn goal : List Int} {u : Nat} (hu : u < o.length) (h : 0 ≤ gi (ranksL o n who inn goal) u) : gb (mkM o.length inn) u = true := by
  obtain ⟨k, hk, _⟩ := ranksL_is o n who inn goal
  rw [hk] at h
  exact rnks_in hu h
theorem rnks_done (o : List Int) (n : List (List Int)) (who : Int) (inn goal : List Int) (m : Nat) : ∀ t, t + negs (rnks o n who inn goal m t) ≤ m ∨ rnkEnd o n who inn (rnks o n who inn goal m t) m
  | 0 => .inl (by have := rnk0_negs o n who inn goal m; omega)
  | t + 1 => by
    by_cases e : rnkEnd o n who inn (rnks o n who inn goal m t) m
    · right
      rw [rnks, rnkS_end (rnks_len _ _ _ _ _ _ _) e]
      exact e
    · left
      have h := (rnks_done o n who inn goal m t).resolve_right e
      have hx : ∃ v, v < m ∧ hasL inn (v : Int) = true ∧ rnkC o n who (mkM m inn) (rnks o n who inn goal m t) v = true := by
        refine Classical.byContradiction fun hne => e fun v hv hi => ?_
        cases hc : rnkC o n who (mkM m inn) (rnks o n who inn goal m t) v with
        | false => rfl
        | true => exact absurd ⟨v, hv, hi, hc⟩ hne
      obtain ⟨v, hv, hi, hc⟩ := hx
      have := rnkS_negs (k := t + 1) (rnks_len o n who inn goal m t) hv hi hc
      rw [rnks]
      omega
theorem ranksL_eq (o : List Int) (n : List (List Int)) (who : Int) (inn goal : List Int) : ranksL o n who inn goal = rnks o n who inn goal o.length o.length := by
  have h : rnkEnd o n who inn (rnks o n who inn goal o.length o.length) o.length := by
    rcases rnks_done o n who inn goal o.length o.length with h | h
    · exact rnkEnd_full (rnks_len _ _ _ _ _ _ _) (by omega)
    · exact h
  exact ((show isRnk o n who inn goal o.length _ from ⟨_, rfl, h⟩).is).symm
theorem ranksL_bound (o : List Int) (n : List (List Int)) (who : Int) (inn goal : List Int) (u : Nat) : -1 ≤ gi (ranksL o n who inn goal) u := by
  obtain ⟨k, hk, _⟩ := ranksL_is o n who inn goal
  rcases Nat.lt_or_ge u o.length with h | h
  · rw [hk]; exact (rnks_top (o := o) (n := n) (who := who) (inn := inn) (goal := goal) k u h).2
  · rw [gi_out (by rw [ranksL_len]; exact h)]; omega


end Go.Proofs.Ytlmhhnplacejkaa
