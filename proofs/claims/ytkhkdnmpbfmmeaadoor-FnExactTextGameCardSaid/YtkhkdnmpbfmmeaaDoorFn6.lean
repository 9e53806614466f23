/- Contracts: isSet, l1Rises, l1Set, SetOk. -/
import Derived.Test.YtkhkdnmpbfmmeaaDoorLib
namespace Go.Proofs.YtkhkdnmpbfmmeaaDoor
open Go.RowKit

/-- what is asked of the element at i of a set -/
def setAt (xs : List Int) (n : Int) (i : Nat) : Prop := 0 ≤ gi xs i ∧ gi xs i < n ∧ (0 < i → gi xs (i - 1) < gi xs i)
/-- a set of numbers from 0 to n - 1 -/
noncomputable def setB (xs : List Int) (n : Int) : Bool := @decide (∀ i, i < xs.length → setAt xs n i) (Classical.propDecidable _)
theorem setB_true {xs : List Int} {n : Int} : setB xs n = true ↔ ∀ i, i < xs.length → setAt xs n i := by unfold setB; exact @decide_eq_true_iff _ (Classical.propDecidable _)
theorem setB_of {xs : List Int} {n : Int} {m : Nat} (hl : xs.length = m) (h : ∀ i, i < m → setAt xs n i) : setB xs n = true := setB_true.2 (by rw [hl]; exact h)
theorem setB_no {xs : List Int} {n : Int} {m k : Nat} (hl : xs.length = m) (hk : k < m) (h : ¬ setAt xs n k) : setB xs n = false := by
  cases e : setB xs n with
  | false => rfl
  | true => exact absurd (setB_true.1 e k (by omega)) h
theorem set_ge {xs : List Int} {n : Int} {m : Nat} (h : ∀ i, i < m → setAt xs n i) : ∀ i, i < m → (i : Int) ≤ gi xs i
  | 0, h0 => (h 0 h0).1
  | i + 1, h1 => by
    have h2 := set_ge h i (by omega)
    have h3 := (h (i + 1) h1).2.2 (by omega)
    rw [show i + 1 - 1 = i from rfl] at h3
    omega
theorem set_len {xs : List Int} {n : Int} (h : setB xs n = true) (hn : 0 ≤ n) : (xs.length : Int) ≤ n := by
  rcases Nat.eq_zero_or_pos xs.length with h0 | h0
  · omega
  · have h1 := set_ge (setB_true.1 h) (xs.length - 1) (by omega)
    have h2 := (setB_true.1 h (xs.length - 1) (by omega)).2.1
    omega

set_option maxHeartbeats 400000 in
theorem isSet (A : Option Addr) (m c : Nat) (xs : List Int) (n : Int) (w : World) (ha : RI w A m c xs) :
    Calls Tryd.prog 66 #[.slice A m c, .int .i64 n] w fun e w' => e = .returned (.bool (setB xs n)) ∧ Qt w w' := by
  have b1 := ha.cap; have b2 := ha.top
  go_enter Tryd.func66, Tryd.ntmps66
  go_wp2
  go_loop [9] (fun i => ∃ k : Nat, k ≤ m ∧ i = .int .i64 k ∧ (∀ j, j < k → setAt xs n j)) (fun i => m - (intOf i).toNat)
  case atStart => exact ⟨0, Nat.zero_le _, rfl, by omega⟩
  case round =>
    obtain ⟨k, hk, rfl, hall⟩ := hrel
    have HA := Lib.hid hall
    clear hall
    by_cases hlt : k < m
    · obtain ⟨b, off, rfl, hc1⟩ := ha.at_ hlt
      have hbad : ¬ setAt xs n k → setB xs n = false := setB_no ha.len hlt
      by_cases h1 : gi xs k < 0
      · have E := Lib.hid (hbad (fun h => by have := h.1; omega))
        clear hbad
        go_wp2
        go_ret
        exact ⟨ret_b E.out.symm, Qt.refl _⟩
      by_cases h2 : n ≤ gi xs k
      · have E := Lib.hid (hbad (fun h => by have := h.2.1; omega))
        clear hbad
        go_wp2
        go_ret
        exact ⟨ret_b E.out.symm, Qt.refl _⟩
      by_cases h0 : k = 0
      · subst h0
        rw [Nat.add_zero] at hc1
        have H := Lib.hid (show setAt xs n 0 from ⟨by omega, by omega, fun h => absurd h (by omega)⟩)
        clear hbad
        go_wp2
        go_round
        case rel => exact ⟨1, by omega, by go_num, all_succ HA.out H.out⟩
        case measure => simp [intOf]; omega
      · have hk0 : (0 : Int) < (k : Int) := by omega
        obtain ⟨b', off', e', hc2⟩ := ha.at_ (i := k - 1) (by omega)
        injection e' with e'
        injection e' with e1 e2
        subst e1; subst e2
        have e3 : ((k : Int) - 1).toNat = k - 1 := by omega
        have E3 := Lib.hid e3
        by_cases h3 : gi xs k ≤ gi xs (k - 1)
        · have E := Lib.hid (hbad (fun h => by have := h.2.2 (by omega); omega))
          clear hbad
          go_wp2
          go_ret
          exact ⟨ret_b E.out.symm, Qt.refl _⟩
        · have H := Lib.hid (show setAt xs n k from ⟨by omega, by omega, fun _ => by omega⟩)
          clear hbad
          go_wp2
          go_round
          case rel => exact ⟨k + 1, by omega, by go_num, all_succ HA.out H.out⟩
          case measure => simp [intOf]; omega
    · obtain rfl : k = m := by omega
      go_wp2
      go_ret
      exact ⟨ret_b (setB_of ha.len HA.out).symm, Qt.refl _⟩

set_option maxHeartbeats 400000 in
theorem l1Rises (A : Option Addr) (m c : Nat) (xs : List Int) (n : Int) (w : World) (ha : RI w A m c xs) (hn0 : 0 ≤ n) (hn1 : n ≤ 9223372036854775807) :
    Calls Tryd.prog 119 #[.slice A m c, .int .i64 n] w fun e w' => e = .returned (.bool (setB xs n)) ∧ Qt w w' := by
  have b1 := ha.cap; have b2 := ha.top
  have e1 : IntKind.i64.wrap (n - 1) = n - 1 := IntWalk.i64_in _ (by omega)
  go_enter Tryd.func119, Tryd.ntmps119
  go_wp2
  go_loopw [5] (fun i wr => ∃ k : Nat, k ≤ m ∧ i = .int .i64 k ∧ (∀ j, j < k → setAt xs n j) ∧ ∃ q, wr = w.drewN q) (fun i _ => m - (intOf i).toNat)
  case atStart => exact ⟨0, Nat.zero_le _, rfl, by omega, 0, rfl⟩
  case round =>
    obtain ⟨k, hk, rfl, hall, q, rfl⟩ := hrel
    have HA := Lib.hid hall
    clear hall
    by_cases hlt : k < m
    · obtain ⟨b, off, rfl, hc1⟩ := ha.at_ hlt
      have hki : (k : Int) < (m : Int) := by omega
      have hki0 : (0 : Int) ≤ (k : Int) := by omega
      have hbad : ¬ setAt xs n k → setB xs n = false := setB_no ha.len hlt
      by_cases h1 : inR (gi xs k) 0 (n - 1) = true
      · have h1' := of_decide_eq_true h1
        by_cases h0 : k = 0
        · subst h0
          rw [Nat.add_zero] at hc1
          have H := Lib.hid (show setAt xs n 0 from ⟨by omega, by omega, fun h => absurd h (by omega)⟩)
          clear hbad
          have hd : decide ((0 : Int) < ((0 : Nat) : Int)) = false := by simp
          go_wp2
          go_quiet ((go_at_call 61; exact quiet1 (l1In _ _ _ _)))
          go_wp2
          go_roundw
          case rel => exact ⟨1, by omega, by go_num, all_succ HA.out H.out, _, rfl⟩
          case measure => simp [intOf]; omega
        · have hk0 : (0 : Int) < (k : Int) := by omega
          have hk1 : (0 : Int) ≤ (k : Int) - 1 := by omega
          have hk2 : (k : Int) - 1 < (m : Int) := by omega
          obtain ⟨b', off', e', hc2⟩ := ha.at_ (i := k - 1) (by omega)
          injection e' with e'
          injection e' with e2 e3
          subst e2; subst e3
          have e4 : ((k : Int) - 1).toNat = k - 1 := by omega
          have hkn : 0 < k := by omega
          have e5 : IntKind.i64.wrap ((k : Int) - 1) = (k : Int) - 1 := IntWalk.i64_in _ (by omega)
          by_cases h3 : gi xs k ≤ gi xs (k - 1)
          · have E := Lib.hid (hbad (fun h => by have := h.2.2 (by omega); omega))
            clear hbad
            go_wp2
            go_quiet ((go_at_call 61; exact quiet1 (l1In _ _ _ _)))
            go_wp2
            go_ret
            exact ⟨ret_b E.out.symm, Qt.drew2 _ _⟩
          · have H := Lib.hid (show setAt xs n k from ⟨by omega, by omega, fun _ => by omega⟩)
            clear hbad
            have hd : decide (gi xs k ≤ gi xs (k - 1)) = false := by simpa using h3
            go_wp2
            go_quiet ((go_at_call 61; exact quiet1 (l1In _ _ _ _)))
            go_wp2
            go_roundw
            case rel => exact ⟨k + 1, by omega, by go_num, all_succ HA.out H.out, _, rfl⟩
            case measure => simp [intOf]; omega
      · replace h1 : inR (gi xs k) 0 (n - 1) = false := by simpa using h1
        have E := Lib.hid (hbad (fun h => by
          have h5 := of_decide_eq_false h1
          have h6 := h.1
          have h7 := h.2.1
          omega))
        clear hbad
        go_wp2
        go_quiet ((go_at_call 61; exact quiet1 (l1In _ _ _ _)))
        go_wp2
        go_ret
        exact ⟨ret_b E.out.symm, Qt.drew2 _ _⟩
    · obtain rfl : k = m := by omega
      go_wp2
      go_ret
      exact ⟨ret_b (setB_of ha.len HA.out).symm, _, rfl⟩

theorem l1Set (A : Option Addr) (m c : Nat) (xs : List Int) (n : Int) (w : World) (ha : RI w A m c xs) (hn0 : 0 ≤ n) (hn1 : n ≤ 9223372036854775807) :
    Calls Tryd.prog 109 #[.slice A m c, .int .i64 n] w fun e w' => e = .returned (.bool (setB xs n)) ∧ Qt w w' := by
  have b1 := ha.cap; have b2 := ha.top
  by_cases h : (m : Int) ≤ n
  · have hd : decide ((m : Int) ≤ n) = true := by simpa using h
    go_enter Tryd.func109, Tryd.ntmps109
    go_wp2_with (go_at_call 119; refine (l1Rises _ _ _ _ _ _ ha hn0 hn1).mono ?_; rintro e w' ⟨rfl, q, rfl⟩)
    go_ret
    exact ⟨rfl, _, rfl⟩
  · have hd : decide ((m : Int) ≤ n) = false := by simpa using h
    have E := Lib.hid (show setB xs n = false by
      cases e : setB xs n with
      | false => rfl
      | true => have := set_len e hn0; rw [ha.len] at this; omega)
    go_enter Tryd.func109, Tryd.ntmps109
    go_wp2
    go_ret
    exact ⟨ret_b E.out.symm, Qt.refl _⟩

theorem SetOk (A : Option Addr) (m c : Nat) (xs : List Int) (n : Int) (w : World) (ha : RI w A m c xs) :
    Calls Tryd.prog 112 #[.slice A m c, .int .i64 n] w fun e w' => e = .returned (.bool (inR n 0 256 && setB xs n)) ∧ Qt w w' := by
  by_cases h : inR n 0 256 = true
  · have h' := of_decide_eq_true h
    have E := Lib.hid (show (inR n 0 256 && setB xs n) = setB xs n by rw [h]; rfl)
    go_enter Tryd.func112, Tryd.ntmps112
    go_wp2_with (first | (go_at_call 61; refine (l1In _ _ _ _).mono ?_; rintro e w' ⟨rfl, q1, rfl⟩) | (go_at_call 109; refine (l1Set _ _ _ _ _ _ (ha.keep (Qt.keeps ⟨q1, rfl⟩)) (by omega) (by omega)).mono ?_; rintro e w' ⟨rfl, q2, rfl⟩))
    go_ret
    exact ⟨ret_b E.out.symm, _, rfl⟩
  · replace h : inR n 0 256 = false := by simpa using h
    have E := Lib.hid (show (inR n 0 256 && setB xs n) = false by rw [h]; rfl)
    go_enter Tryd.func112, Tryd.ntmps112
    go_wp2_with (first | (go_at_call 61; refine (l1In _ _ _ _).mono ?_; rintro e w' ⟨rfl, q1, rfl⟩))
    go_ret
    exact ⟨ret_b E.out.symm, _, rfl⟩
end Go.Proofs.YtkhkdnmpbfmmeaaDoor
