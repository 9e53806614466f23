/- l15Least; StayPlan, spec and impl. StayPlan, spec and impl. -/
import Derived.Test.YtngadlpfheakiaaPlan
import Derived.Test.YtngadlpfheakiaaStay
import Derived.Test.YtngadlpfheakiaaArenaL
namespace Go.Proofs.Ytngadlpfheakiaa
open Go.RowKit

end Go.Proofs.Ytngadlpfheakiaa
namespace Go.Proofs.Ytngadlpfheakiaa
open Go.RowKit

theorem gi_app_lt {xs : List Int} {x : Int} {i : Nat} (h : i < xs.length) : gi (xs ++ [x]) i = gi xs i := by simp [gi, List.getElem?_append_left h]
theorem gi_app_eq {xs : List Int} {x : Int} : gi (xs ++ [x]) xs.length = x := by simp [gi]
theorem listUp_set (ms : List Bool) : ∀ k i, i < (listUp ms k).length → setAt (listUp ms k) (k : Int) i
  | 0, i, h => absurd h (by simp [listUp, pick])
  | k + 1, i, h => by
    have ih := listUp_set ms k
    by_cases e : gb ms k = true
    · have hs : listUp ms (k + 1) = listUp ms k ++ [(k : Int)] := pick_yes e
      rw [hs] at h ⊢
      rw [List.length_append, List.length_singleton] at h
      by_cases hi : i < (listUp ms k).length
      · obtain ⟨h1, h2, h3⟩ := ih i hi
        refine ⟨by rw [gi_app_lt hi]; exact h1, by rw [gi_app_lt hi]; omega, fun h0 => ?_⟩
        rw [gi_app_lt hi, gi_app_lt (by omega)]
        exact h3 h0
      · obtain rfl : i = (listUp ms k).length := by omega
        refine ⟨by rw [gi_app_eq]; omega, by rw [gi_app_eq]; omega, fun h0 => ?_⟩
        rw [gi_app_eq, gi_app_lt (by omega)]
        exact (ih _ (by omega)).2.1
    · have e' : gb ms k = false := by simpa using e
      have hs : listUp ms (k + 1) = listUp ms k := pick_no e'
      rw [hs] at h ⊢
      obtain ⟨h1, h2, h3⟩ := ih i h
      exact ⟨h1, by omega, h3⟩
theorem listM_set {ms : List Bool} {n : Nat} (h : ms.length = n) : setB (listM ms) (n : Int) = true := setB_true.2 fun i hi => by
  subst h
  exact listUp_set ms _ i hi
end Go.Proofs.Ytngadlpfheakiaa
