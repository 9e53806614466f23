/- l1Has. -/
import Derived.Test.YtlmhhnplacejkaaLib
namespace Go.Proofs.Ytlmhhnplacejkaa
open Go.RowKit

theorem l1Has (A : Option Addr) (n c : Nat) (xs : List Int) (x : Int) (w : World) (ha : RI w A n c xs) :
    Calls Try.prog 74 #[.slice A n c, .int .i64 x] w fun e w' => e = .returned (.bool (hasL xs x)) ∧ Qt w w' := by
  have b1 := ha.cap; have b2 := ha.top
  go_enter Try.func74, Try.ntmps74
  go_wp2
  go_loop [5] (fun i => ∃ k : Nat, k ≤ n ∧ i = .int .i64 k ∧ (∀ j, j < k → gi xs j ≠ x)) (fun i => n - (intOf i).toNat)
  case atStart => exact ⟨0, Nat.zero_le _, rfl, by omega⟩
  case round =>
    obtain ⟨k, hk, rfl, hall⟩ := hrel
    by_cases hlt : k < n
    · obtain ⟨b, off, rfl, hc1⟩ := ha.at_ hlt
      by_cases he : gi xs k = x
      · have H := Lib.hid he
        have hne : (gi xs k == x) = true := by simp [he]
        clear he
        go_wp2
        go_ret
        exact ⟨ret_b (hasL_of ha.1 hlt H.out).symm, Qt.refl _⟩
      · have H := Lib.hid he
        have hne : (gi xs k == x) = false := by simp [he]
        clear he
        go_wp2
        go_round
        case rel => exact ⟨k + 1, by omega, by go_num, all_succ hall H.out⟩
        case measure => simp [intOf]; omega
    · go_wp2
      go_ret
      obtain rfl : k = n := by omega
      exact ⟨ret_b (hasL_no ha.1 hall).symm, Qt.refl _⟩
end Go.Proofs.Ytlmhhnplacejkaa
