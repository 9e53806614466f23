/- Sets by dice: w6Set; likeInts, w6Has. -/
import Derived.Test.YtlmhhnplacejkaaDice
import Derived.Test.YtlmhhnplacejkaaApp
import Derived.Test.YtlmhhnplacejkaaFn6
import Derived.Deep.RegionLaw
namespace Go.Proofs.Ytlmhhnplacejkaa
open Go.RowKit

theorem setB_snoc {xs : List Int} {k : Int} (h : setB xs k = true) (h0 : 0 ≤ k) : setB (xs ++ [k]) (k + 1) = true := by
  rw [setB_true] at h ⊢
  have get : ∀ j, j < xs.length → gi (xs ++ [k]) j = gi xs j := fun j hj => by unfold gi; rw [List.getD_eq_getElem?_getD, List.getD_eq_getElem?_getD, List.getElem?_append_left hj]
  intro i hi
  rw [List.length_append, List.length_singleton] at hi
  by_cases e : i < xs.length
  · have := h i e
    unfold setAt at *
    rw [get i e]
    refine ⟨this.1, by omega, fun h0 => ?_⟩
    rw [get (i - 1) (by omega)]
    exact this.2.2 h0
  · obtain rfl : i = xs.length := by omega
    unfold setAt
    rw [show gi (xs ++ [k]) xs.length = k by simp [gi]]
    refine ⟨h0, by omega, fun h0 => ?_⟩
    rw [get (xs.length - 1) (by omega)]
    exact (h (xs.length - 1) (by omega)).2.1
theorem setB_wide {xs : List Int} {k m : Int} (h : setB xs k = true) (hm : k ≤ m) : setB xs m = true := by
  rw [setB_true] at h ⊢
  exact fun i hi => ⟨(h i hi).1, by have := (h i hi).2.1; omega, (h i hi).2.2⟩
theorem setB_none (n : Int) : setB [] n = true := setB_true.2 (by simp)

/-- a set by dice -/
def SetBy (w0 w : World) (b : Nat) (n : Int) (e : Ending) (w' : World) : Prop :=
  ∃ v xs, e = .returned v ∧ setB xs n = true ∧ OI 2 w' w.heap.size v xs ∧ DiceAt w0 w' b ∧ Chg (fun y => y = b) w w'
theorem chg_then {b : Nat} {w w1 w2 : World} (h : Chg (fun y => y = b) w w1) (k : Chg (fun y => y = b) w1 w2) : Chg (fun y => y = b) w w2 := h.trans k (fun _ h => h) (fun _ h => h)
theorem chg_app {b lo : Nat} {u : Value} {w w1 w2 : World} (h : Chg (fun y => y = b) w w1) (hlo : w.heap.size ≤ lo) (k : Chg (fun z => u.ownBlock = some z) w1 w2) (hu : ∀ z, u.ownBlock = some z → lo ≤ z) : Chg (fun y => y = b) w w2 :=
  ⟨k.os.trans h.os, k.tape.trans h.tape, k.output.trans h.output, Nat.le_trans h.size k.size, fun x hx hne =>
    (k.block x (Nat.lt_of_lt_of_le hx h.size) (fun hs => by have := hu x hs; omega)).trans (h.block x hx hne)⟩

set_option maxRecDepth 100000 in
set_option maxHeartbeats 400000 in
theorem w6Set (w0 w : World) (b : Nat) (n : Int) (hd : DiceAt w0 w b) (h0 : 0 ≤ n) (hn : n ≤ 256) :
    Calls Try.prog 43 #[.pointer (some ⟨b, 0, none⟩), .int .i64 n] w (SetBy w0 w b n) := by
  obtain ⟨m, rfl⟩ := Int.eq_ofNat_of_zero_le h0
  have hm : m ≤ 256 := by omega
  clear h0 hn
  go_enter Try.func43, Try.ntmps43
  go_wp2
  have hem := OI.empty (E := 2) (w := w) (B := w.heap.size) (Nat.le_refl _)
  have hal : Below w.heap.size w (w.alloc (.cells #[] 2)) := below_alloc (Nat.le_refl _) (Below.refl _ _)
  go_loopw [5, 6] (fun v i wr => ∃ (k : Nat) (xs : List Int), k ≤ m ∧ i = .int .i64 k ∧ xs.length ≤ k ∧ setB xs (k : Int) = true ∧ OI 2 wr w.heap.size v xs ∧ DiceAt w0 wr b ∧ Chg (fun y => y = b) w wr) (fun _ i _ => m - (intOf i).toNat)
  case atStart => exact ⟨0, [], Nat.zero_le _, rfl, Nat.le_refl _, setB_none _, hem, hd.on hal, (Chg.refl _ _).alloc _⟩
  case round =>
    obtain ⟨k, xs, hk, rfl, hxl, hs, ho, hdr, hc⟩ := hrel
    have HS := Lib.hid hs
    have hsz := hc.size
    clear hs
    by_cases hlt : k < m
    · go_wp2_with fail
      refine (below w0 _ b 3 hdr (by omega)).mono ?_; rintro e w1 ⟨x, rfl, hx, hd1, hc1⟩
      have hc2 := chg_then hc hc1
      have ho1 := ho.chg hc1 (fun z hz hs => by have h1 := (ho.lt z hz).1; have h2 := hd.lt; have h3 : z = b := hs; omega)
      have hsz1 := hc2.size
      by_cases h3 : x = 0
      · subst h3
        go_wp2_with (refine wpList_pushI rfl (.tmp 16) (.tmp 18) rfl _ w.heap.size _ xs rfl ho1 _ rfl (by omega) hsz1 ?_; intro v2 w2 ho2 hb2 hch2 hat2)
        go_wp2
        go_roundw
        case rel => exact ⟨k + 1, xs ++ [(k : Int)], by omega, by go_num, by rw [List.length_append, List.length_singleton]; omega, setB_snoc HS.out (by omega), ho2, hd1.chg hch2 (fun z hz => by have h1 := (ho1.lt z hz).1; have h2 := hd.lt; omega), chg_app hc2 (Nat.le_refl _) hch2 (fun z hz => (ho1.lt z hz).1)⟩
        case measure => simp [intOf]; omega
      · have hx3 : (x == 0) = false := by simp [h3]
        clear h3
        go_wp2
        go_roundw
        case rel => exact ⟨k + 1, xs, by omega, by go_num, by omega, setB_wide HS.out (by omega), ho1, hd1, hc2⟩
        case measure => simp [intOf]; omega
    · obtain rfl : k = m := by omega
      go_wp2
      go_ret
      exact ⟨_, xs, rfl, HS.out, ho, hdr, hc⟩
set_option maxHeartbeats 400000 in
theorem likeInts (A B : Option Addr) (n m c d : Nat) (xs ys : List Int) (w : World) (ha : RI w A n c xs) (hb : RI w B m d ys) :
    Calls Try.prog 36 #[.slice A n c, .slice B m d] w fun e w' => e = .returned (.bool (eqL xs ys)) ∧ Qt w w' := by
  have b1 := ha.cap; have b2 := ha.top; have b3 := hb.cap; have b4 := hb.top
  by_cases hnm : n = m
  · subst hnm
    have hnn : ((n : Int) != (n : Int)) = false := by simp
    go_enter Try.func36, Try.ntmps36
    go_wp2
    go_loopw [5] (fun i wr => ∃ k : Nat, k ≤ n ∧ i = .int .i64 k ∧ (∀ j, j < k → gi xs j = gi ys j) ∧ ∃ q, wr = w.drewN q) (fun i _ => n - (intOf i).toNat)
    case atStart => exact ⟨0, Nat.zero_le _, rfl, by omega, 0, rfl⟩
    case round =>
      obtain ⟨k, hk, rfl, hall, q, rfl⟩ := hrel
      by_cases hlt : k < n
      · obtain ⟨b, off, rfl, hc1⟩ := ha.at_ hlt
        obtain ⟨b', off', rfl, hc2⟩ := hb.at_ hlt
        have hki : (k : Int) < (n : Int) := by omega
        have hk0 : (0 : Int) ≤ (k : Int) := by omega
        by_cases he : gi xs k = gi ys k
        · have H := Lib.hid he
          have hne : (gi xs k != gi ys k) = false := by simp [he]
          clear he
          go_wp2
          go_quiet (fail)
          go_wp2
          go_roundw
          case rel => exact ⟨k + 1, by omega, by go_num, all_succ hall H.out, _, rfl⟩
          case measure => simp [intOf]; omega
        · have H := Lib.hid he
          have hne : (gi xs k != gi ys k) = true := by simp [he]
          clear he
          go_wp2
          go_quiet (fail)
          go_wp2
          go_ret
          exact ⟨ret_b (eqL_ne H.out).symm, Qt.drew2 _ _⟩
      · go_wp2
        go_ret
        obtain rfl : k = n := by omega
        exact ⟨ret_b (eqL_of ha.1 hb.1 hall).symm, _, rfl⟩
  · have hnn : ((n : Int) != (m : Int)) = true := by simp; omega
    have H := Lib.hid hnm
    clear hnm
    go_enter Try.func36, Try.ntmps36
    go_wp2
    go_ret
    exact ⟨ret_b (eqL_len (by rw [ha.1, hb.1]; exact H.out)).symm, Qt.refl _⟩


theorem w6Has (A : Option Addr) (n c : Nat) (xs : List Int) (x : Int) (w : World) (ha : RI w A n c xs) :
    Calls Try.prog 85 #[.slice A n c, .int .i64 x] w fun e w' => e = .returned (.bool (hasL xs x)) ∧ Qt w w' := by
  have b1 := ha.cap; have b2 := ha.top
  go_enter Try.func85, Try.ntmps85
  go_wp2
  go_loop [5] (fun i => ∃ k : Nat, k ≤ n ∧ i = .int .i64 k ∧ (∀ j, j < k → gi xs j ≠ x)) (fun i => n - (intOf i).toNat)
  case atStart => exact ⟨0, Nat.zero_le _, rfl, by omega⟩
  case round =>
    obtain ⟨k, hk, rfl, hall⟩ := hrel
    by_cases hlt : k < n
    · obtain ⟨b, off, rfl, hc1⟩ := ha.at_ hlt
      by_cases he : gi xs k = x
      · have H := Lib.hid he
        have hne : (gi xs k == x) = true := by simp [he]
        clear he
        go_wp2
        go_ret
        exact ⟨ret_b (hasL_of ha.1 hlt H.out).symm, Qt.refl _⟩
      · have H := Lib.hid he
        have hne : (gi xs k == x) = false := by simp [he]
        clear he
        go_wp2
        go_round
        case rel => exact ⟨k + 1, by omega, by go_num, all_succ hall H.out⟩
        case measure => simp [intOf]; omega
    · go_wp2
      go_ret
      obtain rfl : k = n := by omega
      exact ⟨ret_b (hasL_no ha.1 hall).symm, Qt.refl _⟩
end Go.Proofs.Ytlmhhnplacejkaa
