/- The plan to be at a goal again and again, in plain words: the pull plan, and the least successor at the goal, is the plan by ranks. No function of the program is named here. -/
import Derived.Test.YtefjhkcafcchlaaOftP
import Derived.Test.YtefjhkcafcchlaaPull
namespace Go.Proofs.Ytefjhkcafcchlaa
open Go.RowKit

def oftA (ins : List Bool) (rk : List Int) (v u : Nat) : Bool := gb ins u && (gi rk v == 0 || gi rk u == gi rk v - 1)
noncomputable def oftPlanL (o : List Int) (n : List (List Int)) (who : Int) (goal : List Int) : List Int := planL o n who (mkM o.length (oftL o n who goal)) (oftA (mkM o.length (oftL o n who goal)) (ranksL o n who (oftL o n who goal) goal))
noncomputable def oftPlanR (o : List Int) (n : List (List Int)) (who : Int) (goal : List Int) : List Int := if okA o n who goal = true then oftPlanL o n who goal else []
theorem oftPlanL_len (o : List Int) (n : List (List Int)) (who : Int) (goal : List Int) : (oftPlanL o n who goal).length = o.length := fill_len _ _
theorem oftPlanR_len (z : ArD) (who : Int) (s : List Int) : (oftPlanR z.1 z.2 who s).length ≤ 256 := by
  unfold oftPlanR
  split
  · rename_i h
    have h1 := (fineAr_of (okA_parts h).1).2.1
    rw [oftPlanL_len]; omega
  · simp
section
variable {o : List Int} {n : List (List Int)} {who : Int} {goal : List Int}
theorem oft_fix (hf : fineAr o n) : attrL o n who (oftL o n who goal) goal = oftL o n who goal := by
  obtain ⟨k, e, h⟩ := oftL_is o n who goal
  exact (oft_end (oftL_set o n who goal) (by rw [e]; exact oftS_shut hf who goal k)).2 h
theorem rank_oft (hf : fineAr o n) {v : Nat} (hv : v < o.length) (h : gb (mkM o.length (oftL o n who goal)) v = true) : 0 ≤ gi (ranksL o n who (oftL o n who goal) goal) v := by
  have h1 := (mkM_iff hv).1 h
  rw [← oft_fix hf] at h1
  obtain ⟨u, _, hr, e⟩ := mem_attrL.1 h1
  have : u = v := by omega
  rw [← this]; exact hr
/-- at the goal: any successor within -/
theorem oftPlan_goal {v : Nat} (hv : v < o.length) (hg : hasL goal (v : Int) = true) :
    leastV o n who (mkM o.length (oftL o n who goal)) (oftA (mkM o.length (oftL o n who goal)) (ranksL o n who (oftL o n who goal) goal)) v = leastV o n who (mkM o.length (oftL o n who goal)) (fun _ u => gb (mkM o.length (oftL o n who goal)) u) v := by
  unfold leastV
  by_cases h : gb (mkM o.length (oftL o n who goal)) v = true
  · have h0 := rank_goal (n := n) (who := who) hv (hasL_iff.1 hg) ((mkM_iff hv).1 h)
    have e : oftA (mkM o.length (oftL o n who goal)) (ranksL o n who (oftL o n who goal) goal) v = fun u => gb (mkM o.length (oftL o n who goal)) u := by
      funext u
      unfold oftA
      rw [h0]; simp
    rw [e]
  · rw [if_neg (fun c => h c.1), if_neg (fun c => h c.1)]
/-- elsewhere: one rank down -/
theorem oftPlan_else (hf : fineAr o n) {v : Nat} (hv : v < o.length) (hg : hasL goal (v : Int) = false) :
    leastV o n who (mkM o.length (oftL o n who goal)) (oftA (mkM o.length (oftL o n who goal)) (ranksL o n who (oftL o n who goal) goal)) v = pullV o n who (mkM o.length (oftL o n who goal)) (ranksL o n who (oftL o n who goal) goal) v := by
  have hn : ¬ (v : Int) ∈ goal := of_decide_eq_false hg
  unfold leastV pullV
  by_cases ho : gi o v = who
  · by_cases h : gb (mkM o.length (oftL o n who goal)) v = true
    · have h1 := rank_oft (who := who) hf hv h
      have h2 : gi (ranksL o n who (oftL o n who goal) goal) v ≠ 0 := fun e => hn (rank_zero hv e)
      rw [if_pos ⟨h, ho⟩, if_pos ⟨by omega, ho⟩]
      have e : oftA (mkM o.length (oftL o n who goal)) (ranksL o n who (oftL o n who goal) goal) v = pullA (mkM o.length (oftL o n who goal)) (ranksL o n who (oftL o n who goal) goal) v := by
        funext u
        unfold oftA pullA
        rw [show (gi (ranksL o n who (oftL o n who goal) goal) v == 0) = false by simpa using h2]; rfl
      rw [e]
    · rw [if_neg (fun c => h c.1), if_neg]
      intro c
      exact h (ranksL_in (o := o) (n := n) (who := who) (inn := oftL o n who goal) (goal := goal) hv (by have := c.1; omega))
  · rw [if_neg (fun c => ho c.2), if_neg (fun c => ho c.2)]
end
theorem okA_oft {o : List Int} {n : List (List Int)} {who : Int} {goal s : List Int} (h : okA o n who goal = true) (hs : setB s o.length = true) : okA o n who s = true := by
  obtain ⟨h1, h2, h3⟩ := okA_parts h
  unfold okA
  rw [h1, h2, hs]; rfl
end Go.Proofs.Ytefjhkcafcchlaa
