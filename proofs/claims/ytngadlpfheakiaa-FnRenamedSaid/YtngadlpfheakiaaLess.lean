/- impl.AllOf, impl.lessOf. -/
import Derived.Test.YtngadlpfheakiaaSearch
import Derived.Test.YtngadlpfheakiaaPick
namespace Go.Proofs.Ytngadlpfheakiaa
open Go.RowKit

/-- rising numbers: what BinarySearch asks -/
def rises (xs : List Int) : Prop := ∀ i j, i < j → j < xs.length → gi xs i < gi xs j
theorem rises_set {xs : List Int} {n : Int} (h : setB xs n = true) : rises xs := by
  have h' := setB_true.1 h
  intro i j hij hj
  induction j with
  | zero => omega
  | succ j ih =>
    have h2 := (h' (j + 1) hj).2.2 (by omega)
    rw [show j + 1 - 1 = j from rfl] at h2
    by_cases e : i = j
    · subst e; exact h2
    · have := ih (by omega) (by omega); omega
theorem less_at {a b : List Int} {k : Nat} (_h : k < a.length) : lessUp a b (k + 1) = if hasL b (gi a k) = true then lessUp a b k else lessUp a b k ++ [gi a k] := by
  unfold lessUp
  by_cases e : hasL b (gi a k) = true
  · rw [if_pos e, pick_no (by rw [e]; rfl)]
  · rw [if_neg e, pick_yes (by simpa using e)]

set_option maxRecDepth 100000 in
set_option maxHeartbeats 400000 in
theorem lessOf (A C : Option Addr) (n c m d : Nat) (a b : List Int) (w : World) (B : Nat) (hB : B ≤ w.heap.size) (ha : RI w A n c a) (hb : RI w C m d b) (hs : rises b) (hn : n ≤ 1048576) (hm : m ≤ 1048576) :
    Calls Try.prog 84 #[.slice A n c, .slice C m d] w fun e w' => ∃ v, e = .returned v ∧ OI 2 w' B v (lessL a b) ∧ Below B w w' := by
  have b1 := ha.cap; have b2 := ha.top; have b3 := hb.cap; have b4 := hb.top
  have hl := ha.len
  have HL := Lib.hid hl
  clear hl
  go_enter Try.func84, Try.ntmps84
  go_wp2
  go_loopw [5, 13] (fun v i wr => ∃ k : Nat, k ≤ n ∧ i = .int .i64 k ∧ OI 2 wr w.heap.size v (lessUp a b k) ∧ Below w.heap.size w wr) (fun _ i _ => n - (intOf i).toNat)
  case atStart => exact ⟨0, Nat.zero_le _, rfl, OI.empty (Nat.le_refl _), by repeat (first | with_reducible assumption | with_reducible exact Below.refl _ _ | with_reducible refine below_drewN ?_ _ | with_reducible refine Below.drew ?_ | with_reducible refine below_alloc (Nat.le_refl _) ?_)⟩
  case round =>
    obtain ⟨k, hk, rfl, ho, hbr⟩ := hrel
    have hup : (lessUp a b k).length ≤ k := pick_len _ _ _
    have hsz := hbr.size
    by_cases hlt : k < n
    · obtain ⟨bb, off, rfl, hc⟩ := (ha.keep (keeps_below hbr)).at_ hlt
      have hb' := hb.keep (keeps_below hbr)
      have hx := less_at (a := a) (b := b) (k := k) (by rw [HL.out]; exact hlt)
      by_cases hp : hasL b (gi a k) = true
      · rw [if_pos hp] at hx
        have HX := Lib.hid hx
        clear hx
        go_wp2_with fail
        refine (slBinary _ _ _ _ _ _ hb' hs hm).mono ?_; rintro e w' ⟨i, rfl, q, rfl⟩
        go_wp2
        go_roundw
        case rel => exact ⟨k + 1, by omega, by go_num, by rw [HX.out]; exact ho.drewN _, below_drewN hbr _⟩
        case measure => simp [intOf]; omega
      · rw [if_neg hp] at hx
        have HX := Lib.hid hx
        have hp' : hasL b (gi a k) = false := by simpa using hp
        clear hx hp
        go_wp2_with fail
        refine (slBinary _ _ _ _ _ _ hb' hs hm).mono ?_; rintro e w' ⟨i, rfl, q, rfl⟩
        go_wp2_with (refine wpList_pushI rfl (.tmp 25) (.tmp 27) rfl _ _ _ (lessUp a b k) rfl (ho.drewN _) _ rfl (by omega) hsz ?_; intro v2 w2 ho2 hb2 hc2 hat2)
        go_wp2
        go_roundw
        case rel => exact ⟨k + 1, by omega, by go_num, by rw [HX.out]; exact ho2, (below_drewN hbr _).trans hb2⟩
        case measure => simp [intOf]; omega
    · obtain rfl : k = n := by omega
      have HE := Lib.hid (show lessUp a b k = lessL a b by rw [← HL.out]; rfl)
      go_wp2
      go_ret
      exact ⟨_, rfl, by rw [← HE.out]; exact ho.more hB, hbr.mono hB⟩

set_option maxRecDepth 100000 in
theorem AllOf (n : Int) (w : World) (B : Nat) (hB : B ≤ w.heap.size) (h0 : 0 ≤ n) (h1 : n ≤ 256) :
    Calls Try.prog 101 #[.int .i64 n] w fun e w' => ∃ v, e = .returned v ∧ OI 2 w' B v (allL n.toNat) ∧ Below B w w' := by
  obtain ⟨N, rfl⟩ : ∃ N : Nat, n = (N : Int) := ⟨n.toNat, by omega⟩
  go_enter Try.func101, Try.ntmps101
  go_wp2
  go_loopw [3, 4] (fun v i wr => ∃ k : Nat, k ≤ N ∧ i = .int .i64 k ∧ OI 2 wr w.heap.size v (allL k) ∧ Below w.heap.size w wr) (fun _ i _ => N - (intOf i).toNat)
  case atStart => exact ⟨0, Nat.zero_le _, rfl, OI.empty (Nat.le_refl _), by repeat (first | with_reducible assumption | with_reducible exact Below.refl _ _ | with_reducible refine below_drewN ?_ _ | with_reducible refine Below.drew ?_ | with_reducible refine below_alloc (Nat.le_refl _) ?_)⟩
  case round =>
    obtain ⟨k, hk, rfl, ho, hbr⟩ := hrel
    have hup : (allL k).length ≤ k := pick_len _ _ _
    have hsz := hbr.size
    by_cases hlt : k < N
    · have HX := Lib.hid (allL_succ k)
      go_wp2_with (refine wpList_pushI rfl (.tmp 17) (.tmp 19) rfl _ _ _ (allL k) rfl ho _ rfl (by omega) hsz ?_; intro v2 w2 ho2 hb2 hc2 hat2)
      go_wp2
      go_roundw
      case rel => exact ⟨k + 1, by omega, by go_num, by rw [HX.out]; exact ho2, hbr.trans hb2⟩
      case measure => simp [intOf]; omega
    · obtain rfl : k = N := by omega
      go_wp2
      go_ret
      exact ⟨_, rfl, by rw [Int.toNat_natCast]; exact ho.more hB, hbr.mono hB⟩
end Go.Proofs.Ytngadlpfheakiaa
