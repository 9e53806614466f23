/- Library: slices.Index, slices.Contains, slices.BinarySearch at int64; cmp.Less. -/
import Derived.Test.YtngadlpfheakiaaFn6
import Derived.Lib.SlicesSearch
namespace Go.Proofs.Ytngadlpfheakiaa
open Go.RowKit

theorem cmpNaN (x : Int) (w : World) : Calls Try.prog 167 #[.int .i64 x] w fun e w' => e = .returned (.bool false) ∧ Qt w w' := by
  have hne : (x != x) = false := by simp
  go_enter Try.func167, Try.ntmps167
  go_wp2
  go_ret
  exact ⟨rfl, Qt.refl _⟩
theorem slNaN (x : Int) (w : World) : Calls Try.prog 161 #[.int .i64 x] w fun e w' => e = .returned (.bool false) ∧ Qt w w' := by
  have hne : (x != x) = false := by simp
  go_enter Try.func161, Try.ntmps161
  go_wp2
  go_ret
  exact ⟨rfl, Qt.refl _⟩
def ltB (x y : Int) : Bool := decide (x < y)
theorem cmpLess (x y : Int) (w : World) : Calls Try.prog 136 #[.int .i64 x, .int .i64 y] w fun e w' => e = .returned (.bool (ltB x y)) ∧ Qt w w' := by
  have E := Lib.hid (show ltB x y = decide (x < y) from rfl)
  go_enter Try.func136, Try.ntmps136
  go_wp2_with (go_at_call 167; refine (cmpNaN _ _).mono ?_; rintro e w' ⟨rfl, q, rfl⟩)
  go_ret
  exact ⟨ret_b E.out.symm, Qt.drewN _⟩

/-- at the loop's end: all below place i are less than x, all from i on are not -/
theorem has_at {xs : List Int} {x : Int} {n i : Nat} (hl : xs.length = n) (hs : ∀ i j, i < j → j < xs.length → gi xs i < gi xs j) (hi : i ≤ n) (h1 : ∀ j, j < i → gi xs j < x) (h2 : ∀ j, i ≤ j → j < n → x ≤ gi xs j) : hasL xs x = true ↔ (i < n ∧ gi xs i = x) := by
  constructor
  · intro h
    obtain ⟨j, hj, rfl⟩ := mem_gi (of_decide_eq_true h)
    have hij : i ≤ j := by
      rcases Nat.lt_or_ge j i with h3 | h3
      · have := h1 j h3; omega
      · exact h3
    by_cases e : i = j
    · subst e; exact ⟨by omega, rfl⟩
    · have := hs i j (by omega) hj
      have := h2 i (Nat.le_refl _) (by omega)
      omega
  · rintro ⟨h3, rfl⟩
    exact decide_eq_true (gi_mem (by omega))

set_option maxHeartbeats 800000 in
theorem slBinary (A : Option Addr) (n c : Nat) (xs : List Int) (x : Int) (w : World) (ha : RI w A n c xs) (hs : ∀ i j, i < j → j < xs.length → gi xs i < gi xs j) (hn : n ≤ 1048576) :
    Calls Try.prog 125 #[.slice A n c, .int .i64 x] w fun e w' => ∃ i : Int, e = .returned (.tuple #[.int .i64 i, .bool (hasL xs x)]) ∧ Qt w w' := by
  have b1 := ha.cap; have b2 := ha.top
  have HS := Lib.hid hs
  have HL := Lib.hid ha.len
  clear hs
  go_enter Try.func125, Try.ntmps125
  go_wp2
  go_loopw [7, 8, 9] (fun i j _ wr => ∃ k l : Nat, k ≤ l ∧ l ≤ n ∧ i = .int .i64 k ∧ j = .int .i64 l ∧ (∀ t, t < k → gi xs t < x) ∧ (∀ t, l ≤ t → t < n → x ≤ gi xs t) ∧ ∃ q, wr = w.drewN q) (fun i j _ _ => (intOf j).toNat - (intOf i).toNat)
  case atStart => exact ⟨0, n, by omega, by omega, rfl, rfl, by omega, by omega, 0, rfl⟩
  case round =>
    obtain ⟨k, l, hkl, hl, rfl, rfl, h1, h2, q, rfl⟩ := hrel
    have H1 := Lib.hid h1
    have H2 := Lib.hid h2
    clear h1 h2
    by_cases hlt : k < l
    · have hmid : (k + l) / 2 < n := by omega
      obtain ⟨b, off, rfl, hc1⟩ := ha.at_ hmid
      by_cases hle : ltB (gi xs ((k + l) / 2)) x = true
      · have HP := Lib.hid (of_decide_eq_true hle)
        go_wp2_with (go_at_call 136; refine (cmpLess _ _ _).mono ?_; rintro e w' ⟨rfl, q2, rfl⟩)
        go_roundw
        case rel =>
          refine ⟨(k + l) / 2 + 1, l, by omega, hl, by go_num, rfl, fun t ht => ?_, H2.out, _, rfl⟩
          rcases Nat.lt_or_ge t ((k + l) / 2) with h | h
          · have := HS.out t ((k + l) / 2) h (by rw [HL.out]; exact hmid)
            have := HP.out
            omega
          · obtain rfl : t = (k + l) / 2 := by omega
            exact HP.out
        case measure => simp [intOf]; omega
      · have hle' : ltB (gi xs ((k + l) / 2)) x = false := by simpa using hle
        have HP := Lib.hid (of_decide_eq_false hle')
        clear hle
        go_wp2_with (go_at_call 136; refine (cmpLess _ _ _).mono ?_; rintro e w' ⟨rfl, q2, rfl⟩)
        go_roundw
        case rel =>
          refine ⟨k, (k + l) / 2, by omega, by omega, rfl, by go_num, H1.out, fun t ht1 ht2 => ?_, _, rfl⟩
          rcases Nat.eq_or_lt_of_le ht1 with h | h
          · subst h; have := HP.out; omega
          · have := HS.out ((k + l) / 2) t h (by rw [HL.out]; exact ht2)
            have := HP.out
            omega
        case measure => simp [intOf]; omega
    · obtain rfl : k = l := by omega
      have hiff := has_at HL.out HS.out hl H1.out H2.out
      by_cases hkn : k < n
      · obtain ⟨b, off, rfl, hc1⟩ := ha.at_ hkn
        have hd : decide ((k : Int) < (n : Int)) = true := by simpa using hkn
        by_cases he : gi xs k = x
        · have E := Lib.hid (hiff.2 ⟨hkn, he⟩)
          have he2 : (gi xs k == x) = true := by simpa using he
          clear he hiff
          go_wp2_with (go_at_call 161; refine (slNaN _ _).mono ?_; rintro e w' ⟨rfl, q2, rfl⟩)
          go_ret2
          exact ⟨(k : Int), by rw [E.out]; rfl, _, rfl⟩
        · have E := Lib.hid (show hasL xs x = false by cases h : hasL xs x with
            | false => rfl
            | true => exact absurd (hiff.1 h).2 he)
          have he2 : (gi xs k == x) = false := by simpa using he
          clear he hiff
          go_wp2_with (go_at_call 161; refine (slNaN _ _).mono ?_; rintro e w' ⟨rfl, q2, rfl⟩)
          go_ret2
          exact ⟨(k : Int), by rw [E.out]; rfl, _, rfl⟩
      · have E := Lib.hid (show hasL xs x = false by cases h : hasL xs x with
          | false => rfl
          | true => exact absurd (hiff.1 h).1 hkn)
        have hd : decide ((k : Int) < (n : Int)) = false := by simpa using hkn
        clear hiff
        go_wp2_with (go_at_call 161; refine (slNaN _ _).mono ?_; rintro e w' ⟨rfl, q2, rfl⟩)
        go_ret2
        exact ⟨(k : Int), by rw [E.out]; rfl, _, rfl⟩
end Go.Proofs.Ytngadlpfheakiaa
