/- l15Least; StayPlan, spec and impl. StayPlan, spec and impl. -/
import Derived.Test.YtlmhhnplacejkaaPlan
import Derived.Test.YtlmhhnplacejkaaStay
import Derived.Test.YtlmhhnplacejkaaArenaL
namespace Go.Proofs.Ytlmhhnplacejkaa
open Go.RowKit

theorem firstU_stay {al : Nat → Bool} {ns : List Int} {k : Nat} (h : 0 ≤ firstU al ns k) : ∀ d, firstU al ns (k + d) = firstU al ns k
  | 0 => rfl
  | d + 1 => by rw [← Nat.add_assoc, firstU, firstU_stay h d, if_neg (by omega)]
theorem firstU_at {al : Nat → Bool} {ns : List Int} {k m : Nat} (hm : gi ns k = (m : Int)) (h : firstU al ns k < 0) : firstU al ns (k + 1) = if al m = true then (m : Int) else -1 := by
  rw [firstU, if_pos h, hm]; rfl
end Go.Proofs.Ytlmhhnplacejkaa
namespace Go.Proofs.Ytlmhhnplacejkaa
open Go.RowKit

theorem gi_app_lt {xs : List Int} {x : Int} {i : Nat} (h : i < xs.length) : gi (xs ++ [x]) i = gi xs i := by simp [gi, List.getElem?_append_left h]
theorem gi_app_eq {xs : List Int} {x : Int} : gi (xs ++ [x]) xs.length = x := by simp [gi]
theorem listUp_set (ms : List Bool) : ∀ k i, i < (listUp ms k).length → setAt (listUp ms k) (k : Int) i
  | 0, i, h => absurd h (by simp [listUp, pick])
  | k + 1, i, h => by
    have ih := listUp_set ms k
    by_cases e : gb ms k = true
    · have hs : listUp ms (k + 1) = listUp ms k ++ [(k : Int)] := pick_yes e
      rw [hs] at h ⊢
      rw [List.length_append, List.length_singleton] at h
      by_cases hi : i < (listUp ms k).length
      · obtain ⟨h1, h2, h3⟩ := ih i hi
        refine ⟨by rw [gi_app_lt hi]; exact h1, by rw [gi_app_lt hi]; omega, fun h0 => ?_⟩
        rw [gi_app_lt hi, gi_app_lt (by omega)]
        exact h3 h0
      · obtain rfl : i = (listUp ms k).length := by omega
        refine ⟨by rw [gi_app_eq]; omega, by rw [gi_app_eq]; omega, fun h0 => ?_⟩
        rw [gi_app_eq, gi_app_lt (by omega)]
        exact (ih _ (by omega)).2.1
    · have e' : gb ms k = false := by simpa using e
      have hs : listUp ms (k + 1) = listUp ms k := pick_no e'
      rw [hs] at h ⊢
      obtain ⟨h1, h2, h3⟩ := ih i h
      exact ⟨h1, by omega, h3⟩
theorem listM_set {ms : List Bool} {n : Nat} (h : ms.length = n) : setB (listM ms) (n : Int) = true := setB_true.2 fun i hi => by
  subst h
  exact listUp_set ms _ i hi
theorem mkM_list {ms : List Bool} {n : Nat} (h : ms.length = n) : mkM n (listM ms) = ms := gb_ext (by rw [mkM_len, h]) fun j hj => by
  rw [mkM_len] at hj
  rw [mkM_at hj]
  cases hg : gb ms j with
  | true => exact decide_eq_true (mem_pick.2 ⟨j, by omega, hg, rfl⟩)
  | false =>
    refine decide_eq_false fun hm => ?_
    obtain ⟨i, _, h2, h3⟩ := mem_pick.1 hm
    obtain rfl : i = j := by omega
    rw [h2] at hg
    cases hg
noncomputable def stayPlanR (o : List Int) (n : List (List Int)) (who : Int) (s : List Int) : List Int := if okA o n who s = true then planL o n who (stayM o n who s) (fun _ u => gb (stayM o n who s) u) else []
theorem stayPlanR_len (z : ArD) (who : Int) (s : List Int) : (stayPlanR z.1 z.2 who s).length ≤ 256 := by
  unfold stayPlanR
  split
  · rename_i h
    have := (fineAr_of (okA_parts h).1).2.1
    unfold planL
    rw [fill_len]
    exact this
  · simp
theorem stayM_len {o : List Int} {n : List (List Int)} {who : Int} {s : List Int} : (stayM o n who s).length = o.length := by
  unfold stayM gfp
  have h0 : ∃ r, isGfp (intoB o n who) o.length (mkM o.length s) r := gfp_ex _ _ _ (mkM_len _ _)
  have := (@Classical.epsilon_spec _ (isGfp (intoB o n who) o.length (mkM o.length s)) h0).len
  rw [mkM_len] at this
  exact this

end Go.Proofs.Ytlmhhnplacejkaa
