/- Contracts of ShapeOk: spec and impl. -/
import Derived.Test.YtkhkdnmpbfmmeaaDoorFn4
namespace Go.Proofs.YtkhkdnmpbfmmeaaDoor
open Go.RowKit

def entOk (p : List Int) : Bool := decide (p.length ≤ 256 ∧ ∀ u ∈ p, -1 ≤ u ∧ u < 256)
theorem areEntries (A : Option Addr) (n c : Nat) (xs : List Int) (w : World) (ha : RI w A n c xs) :
    Calls Tryd.prog 55 #[.slice A n c] w fun e w' => e = .returned (.bool (entOk xs)) ∧ Qt w w' := by
  have b1 := ha.cap; have b2 := ha.top
  go_enter Tryd.func55, Tryd.ntmps55
  go_wp2
  go_loop [7] (fun i => ∃ k : Nat, k ≤ n ∧ i = .int .i64 k ∧ (∀ j, j < k → -1 ≤ gi xs j ∧ gi xs j < 256)) (fun i => n - (intOf i).toNat)
  case atStart => exact ⟨0, Nat.zero_le _, rfl, by omega⟩
  case round =>
    obtain ⟨k, hk, rfl, hall⟩ := hrel
    have HA := Lib.hid hall
    clear hall
    by_cases hlt : k < n
    · obtain ⟨b, off, rfl, hc1⟩ := ha.at_ hlt
      have hbad : ¬ (-1 ≤ gi xs k ∧ gi xs k < 256) → entOk xs = false := fun hb => decide_eq_false fun h => hb (h.2 _ (gi_mem (by rw [ha.len]; exact hlt)))
      by_cases h1 : gi xs k < -1
      · have E := Lib.hid (hbad (by omega))
        clear hbad
        go_wp2
        go_ret
        exact ⟨ret_b E.out.symm, Qt.refl _⟩
      by_cases h2 : 256 ≤ gi xs k
      · have E := Lib.hid (hbad (by omega))
        clear hbad
        go_wp2
        go_ret
        exact ⟨ret_b E.out.symm, Qt.refl _⟩
      clear hbad
      have h3 : -1 ≤ gi xs k := by omega
      have h4 : gi xs k < 256 := by omega
      go_wp2
      go_round
      case rel => exact ⟨k + 1, by omega, by go_num, all_succ HA.out ⟨h3, h4⟩⟩
      case measure => simp [intOf]; omega
    · obtain rfl : k = n := by omega
      have hall : ∀ u ∈ xs, -1 ≤ u ∧ u < 256 := fun u hu => by
        obtain ⟨i, hi, rfl⟩ := mem_gi hu
        exact HA.out i (by rw [← ha.len]; exact hi)
      by_cases h5 : k ≤ 256
      · have E := Lib.hid (show entOk xs = true from decide_eq_true ⟨by rw [ha.len]; exact h5, hall⟩)
        clear hall
        go_wp2
        go_ret
        exact ⟨ret_b (by rw [E.out]; simp; omega), Qt.refl _⟩
      · have E := Lib.hid (show entOk xs = false from decide_eq_false fun h => h5 (by rw [← ha.len]; exact h.1))
        clear hall
        go_wp2
        go_ret
        exact ⟨ret_b (by rw [E.out]; simp; omega), Qt.refl _⟩

end Go.Proofs.YtkhkdnmpbfmmeaaDoor
