/- The dice of the laws: roll, below; a slice of bytes that reads as a list. Sets by dice: w6Set; likeInts, w6Has. -/
import Derived.Test.YtkhkdnmpbfmmeaaDoorPush
import Derived.IntWalk
import Derived.StillTailTactics
import Derived.Test.YtkhkdnmpbfmmeaaDoorApp
import Derived.Test.YtkhkdnmpbfmmeaaDoorFn6
import Derived.Deep.RegionLaw
namespace Go.Proofs.YtkhkdnmpbfmmeaaDoor
open Go.RowKit

/-- a slice of bytes that reads as a list -/
def RY (w : World) (A : Option Addr) (n c : Nat) (xs : List Int) : Prop :=
  xs.length = n ∧ (n ≤ c ∧ c ≤ 9223372036854775807) ∧ (∀ x ∈ xs, 0 ≤ x ∧ x ≤ 255) ∧ ∀ i, i < n → ∃ b off, A = some ⟨b, off, none⟩ ∧ w.cell? ⟨b, off + i, none⟩ = some (.int .u8 (gi xs i))
section
variable {w w' : World} {A : Option Addr} {n c : Nat} {xs : List Int}
theorem RY.cap (h : RY w A n c xs) : n ≤ c := h.2.1.1
theorem RY.top (h : RY w A n c xs) : c ≤ 9223372036854775807 := h.2.1.2
theorem RY.at_ (h : RY w A n c xs) {i : Nat} (hi : i < n) : ∃ b off, A = some ⟨b, off, none⟩ ∧ w.cell? ⟨b, off + i, none⟩ = some (.int .u8 (gi xs i)) ∧ 0 ≤ gi xs i ∧ gi xs i ≤ 255 := by
  obtain ⟨b, off, e, hc⟩ := h.2.2.2 i hi
  exact ⟨b, off, e, hc, h.2.2.1 _ (gi_mem (by rw [h.1]; exact hi))⟩
theorem RY.keep (h : RY w A n c xs) (k : Keeps w w') : RY w' A n c xs :=
  ⟨h.1, h.2.1, h.2.2.1, fun i hi => by obtain ⟨b, off, e, hc⟩ := h.2.2.2 i hi; exact ⟨b, off, e, k _ _ hc⟩⟩
theorem RY.of_nil : RY w none 0 0 [] := ⟨rfl, ⟨by omega, by omega⟩, by simp, fun i hi => absurd hi (by omega)⟩
theorem RY.of_cells {x : Addr} {len cap : Nat} {zs : List Int} (hl : len ≤ cap) (hm : cap ≤ maxLen) (hz : zs.length = cap)
    (hcell : ∀ i, i < zs.length → w.cell? (x.add i) = some (.int .u8 (zs.getD i 0))) (hr : ∀ z ∈ zs, 0 ≤ z ∧ z ≤ 255) : RY w (some x) len cap (zs.take len) := by
  refine ⟨by rw [List.length_take]; omega, ⟨hl, by unfold maxLen at hm; omega⟩, fun z hz => hr z (List.mem_of_mem_take hz), fun i hi => ?_⟩
  obtain ⟨b, off, spot⟩ := x
  have h0 := hcell 0 (by omega)
  have hs : spot = none := by simpa [Addr.add] using World.cell?_spot h0
  subst hs
  refine ⟨b, off, rfl, ?_⟩
  have hc := hcell i (by omega)
  rw [gi_take hi]
  rw [show (⟨b, off, none⟩ : Addr).add i = ⟨b, off + i, none⟩ from by unfold Addr.add; split <;> simp_all] at hc
  exact hc
end

theorem chg_drewN {S : Nat → Prop} {w w' : World} (h : Chg S w w') (q : Nat) : Chg S w (w'.drewN q) := ⟨h.os, h.tape, h.output, h.size, h.block⟩
/-- the dice lie at block b in w; what they were made of is old in w0 -/
def DiceAt (w0 w : World) (b : Nat) : Prop :=
  ∃ A n c l i h, RY w0 A n c l ∧ Box w b 97 #[.slice A n c, .int .i64 i, .int .u64 h] ∧ (0 ≤ i ∧ i ≤ n ∧ n ≤ 4096) ∧ w0.heap.size ≤ b ∧ Below w0.heap.size w0 w
theorem DiceAt.on {w0 w w' : World} {b : Nat} (h : DiceAt w0 w b) (hb : Below w.heap.size w w') : DiceAt w0 w' b := by
  obtain ⟨A, n, c, l, i, x, h1, h2, h3, h4, h5⟩ := h
  exact ⟨A, n, c, l, i, x, h1, h2.below hb h2.lt, h3, h4, h5.trans (hb.mono h5.size)⟩
theorem DiceAt.chg {w0 w w' : World} {b : Nat} {S : Nat → Prop} (h : DiceAt w0 w b) (hc : Chg S w w') (hS : ∀ x, S x → b < x) : DiceAt w0 w' b := by
  obtain ⟨A, n, c, l, i, x, h1, h2, h3, h4, h5⟩ := h
  exact ⟨A, n, c, l, i, x, h1, (hc.block b h2.lt (fun hs => by have := hS b hs; omega)).trans h2, h3, h4, h5.trans (hc.below h5.size (fun x hx => by have := hS x hx; omega))⟩
theorem DiceAt.lt {w0 w : World} {b : Nat} (h : DiceAt w0 w b) : b < w.heap.size := by
  obtain ⟨A, n, c, l, i, x, h1, h2, h3, h4, h5⟩ := h
  exact h2.lt
theorem DiceAt.lo {w0 w : World} {b : Nat} (h : DiceAt w0 w b) : w0.heap.size ≤ b := by
  obtain ⟨A, n, c, l, i, x, h1, h2, h3, h4, h5⟩ := h
  exact h4
theorem DiceAt.bel {w0 w : World} {b : Nat} (h : DiceAt w0 w b) : Below w0.heap.size w0 w := by
  obtain ⟨A, n, c, l, i, x, h1, h2, h3, h4, h5⟩ := h
  exact h5

/-- a throw -/
def Threw (w0 w : World) (b : Nat) (k : Int) (e : Ending) (w' : World) : Prop := ∃ x, e = .returned (.int .i64 x) ∧ (0 ≤ x ∧ x < k) ∧ DiceAt w0 w' b ∧ Chg (fun y => y = b) w w'

theorem and24 (x : Int) : 0 ≤ bits .and .u64 x 16777215 ∧ bits .and .u64 x 16777215 ≤ 16777215 := by
  show 0 ≤ IntKind.u64.wrap ((BitVec.ofInt 64 x &&& BitVec.ofInt 64 16777215).toNat : Int) ∧ IntKind.u64.wrap ((BitVec.ofInt 64 x &&& BitVec.ofInt 64 16777215).toNat : Int) ≤ 16777215
  have h : (BitVec.ofInt 64 x &&& BitVec.ofInt 64 16777215).toNat ≤ 16777215 := by
    rw [BitVec.toNat_and]
    exact Nat.and_le_right
  rw [IntWalk.u64_in _ (by omega)]
  omega

set_option maxRecDepth 100000 in
set_option maxHeartbeats 400000 in
theorem below (w0 w : World) (b : Nat) (k : Int) (hd : DiceAt w0 w b) (hk : 1 ≤ k) :
    Calls Tryd.prog 45 #[.pointer (some ⟨b, 0, none⟩), .int .i64 k] w (Threw w0 w b k) := by
  obtain ⟨A, n, c, l, i, h, hy, hbx, ⟨hi0, hi1, hn⟩, h4, h5⟩ := hd
  obtain ⟨j, rfl⟩ := Int.eq_ofNat_of_zero_le hi0
  have hjn : j ≤ n := by omega
  have c2 := hbx.cell 2
  have f2 := hbx.hot 2
  simp only [List.getElem?_toArray, List.getElem?_cons_zero, List.getElem?_cons_succ] at c2
  go_enter Tryd.func45, Tryd.ntmps45
  go_wp2_with fail
  generalize IntKind.u64.wrap (IntKind.u64.wrap (h * 6364136223846793005) + 1442695040888963407) = h'
  have hx := and24 (h' / 8589934592)
  generalize bits .and .u64 (h' / 8589934592) 16777215 = x at *
  rw [show wrap64 x = x by unfold wrap64; omega]
  have hb1 := hbx.set_ 2 (.int .u64 h')
  have hg1 : Chg (fun y => y = b) w (w.setCell ⟨b, 2, none⟩ (.int .u64 h')) := Chg.set ⟨b, 2, none⟩ _
  have hw1 : Below w0.heap.size w0 (w.setCell ⟨b, 2, none⟩ (.int .u64 h')) := h5.setCell h4 _
  clear c2 f2 h5 hbx hi0 hi1
  generalize w.setCell ⟨b, 2, none⟩ (.int .u64 h') = w1 at *
  have c0 := hb1.cell 0; have c1 := hb1.cell 1
  have f1 := hb1.hot 1
  simp only [List.setIfInBounds_toArray, List.set_cons_succ, List.set_cons_zero, List.getElem?_toArray, List.getElem?_cons_zero, List.getElem?_cons_succ] at c0 c1
  have hk0 : ¬ k = 0 := by omega
  by_cases hlt : j < n
  · obtain ⟨b', off, rfl, hc, hr⟩ := (hy.keep (keeps_below hw1)).at_ hlt
    generalize gi l j = y at *
    have e1 : wrap64 (x + y) = x + y := by unfold wrap64; omega
    have e2 : wrap64 y = y := by unfold wrap64; omega
    go_quiet (fail)
    go_wp2_with fail
    go_quiet (fail)
    go_wp2_with fail
    go_ret
    have hm := Int.emod_nonneg (x + y) hk0
    have hm2 := Int.emod_lt_of_pos (x + y) (show 0 < k by omega)
    have hb2 := hb1.set_ 1 (.int .i64 ((j : Int) + 1))
    simp only [List.setIfInBounds_toArray, List.set_cons_succ, List.set_cons_zero] at hb2
    exact ⟨_, rfl, ⟨hm, hm2⟩, ⟨_, n, c, l, (j : Int) + 1, h', hy, hb2, ⟨by omega, by omega, hn⟩, h4, (below_drewN hw1 _).setCell h4 _⟩, Chg.trans (chg_drewN hg1 _) (Chg.set (w := w1.drewN _) ⟨b, 1, none⟩ _) (fun _ h => h) (fun _ h => h)⟩
  · go_quiet (fail)
    go_wp2_with fail
    go_ret
    have hm := Int.emod_nonneg x hk0
    have hm2 := Int.emod_lt_of_pos x (show 0 < k by omega)
    simp only [List.setIfInBounds_toArray, List.set_cons_succ, List.set_cons_zero] at hb1
    exact ⟨_, rfl, ⟨hm, hm2⟩, ⟨_, n, c, l, (j : Int), h', hy, hb1, ⟨by omega, by omega, hn⟩, h4, below_drewN hw1 _⟩, chg_drewN hg1 _⟩

set_option maxRecDepth 100000 in
set_option maxHeartbeats 400000 in
theorem roll (A : Option Addr) (n c : Nat) (l : List Int) (sd : Int) (w : World) (hy : RY w A n c l) (hn : n ≤ 4096) :
    Calls Tryd.prog 43 #[.slice A n c, .int .u64 sd] w fun e w' => ∃ b, e = .returned (.pointer (some ⟨b, 0, none⟩)) ∧ DiceAt w w' b := by
  have b1 := hy.cap; have b2 := hy.top
  go_enter Tryd.func43, Tryd.ntmps43
  go_wp2_with fail
  generalize IntKind.u64.wrap _ = h0
  go_loopw [6] (fun i wr => ∃ (j : Nat) (h : Int), j ≤ n ∧ i = .int .i64 j ∧ Box wr w.heap.size 97 #[.slice A n c, .int .i64 0, .int .u64 h] ∧ Below w.heap.size w wr) (fun i _ => n - (intOf i).toNat)
  case atStart => exact ⟨0, _, Nat.zero_le _, rfl, Box.new _ _ _, below_alloc (Nat.le_refl _) (Below.refl _ _)⟩
  case round =>
    obtain ⟨j, h, hj, rfl, hbx, hb⟩ := hrel
    by_cases hlt : j < n
    · obtain ⟨b', off, rfl, hc, hr⟩ := (hy.keep (keeps_below hb)).at_ hlt
      have c2 := hbx.cell 2
      have f2 := hbx.hot 2
      simp only [List.getElem?_toArray, List.getElem?_cons_zero, List.getElem?_cons_succ] at c2
      go_wp2_with fail
      go_still_tail 15, (by kernel_rfl)
      change wpList _ _ _ _ _ wr.drew
      generalize IntKind.u64.wrap (IntKind.u64.wrap (IntKind.u64.wrap (h * 1099511628211) + IntKind.u64.wrap (gi l j)) + 3) = h1
      replace hbx : Box wr.drew _ _ _ := hbx
      replace hb : Below _ _ wr.drew := Below.drew hb
      replace f2 : wr.drew.frozen? _ = false := f2
      replace c2 : wr.drew.cell? _ = some _ := c2
      generalize wr.drew = w2 at *
      go_wp2
      go_roundw
      case rel =>
        have hb2 := hbx.set_ 2 (.int .u64 h1)
        simp only [List.setIfInBounds_toArray, List.set_cons_succ, List.set_cons_zero] at hb2
        exact ⟨j + 1, h1, by omega, by go_num, hb2, hb.setCell (Nat.le_refl _) _⟩
      case measure => simp [intOf]; omega
    · go_wp2
      go_ret
      exact ⟨_, rfl, _, n, c, l, 0, h, hy, hbx, ⟨by omega, by omega, hn⟩, Nat.le_refl _, hb⟩
end Go.Proofs.YtkhkdnmpbfmmeaaDoor
namespace Go.Proofs.YtkhkdnmpbfmmeaaDoor
open Go.RowKit

theorem setB_wide {xs : List Int} {k m : Int} (h : setB xs k = true) (hm : k ≤ m) : setB xs m = true := by
  rw [setB_true] at h ⊢
  exact fun i hi => ⟨(h i hi).1, by have := (h i hi).2.1; omega, (h i hi).2.2⟩
theorem setB_none (n : Int) : setB [] n = true := setB_true.2 (by simp)

theorem chg_then {b : Nat} {w w1 w2 : World} (h : Chg (fun y => y = b) w w1) (k : Chg (fun y => y = b) w1 w2) : Chg (fun y => y = b) w w2 := h.trans k (fun _ h => h) (fun _ h => h)
set_option maxHeartbeats 400000 in
theorem likeInts (A B : Option Addr) (n m c d : Nat) (xs ys : List Int) (w : World) (ha : RI w A n c xs) (hb : RI w B m d ys) :
    Calls Tryd.prog 46 #[.slice A n c, .slice B m d] w fun e w' => e = .returned (.bool (eqL xs ys)) ∧ Qt w w' := by
  have b1 := ha.cap; have b2 := ha.top; have b3 := hb.cap; have b4 := hb.top
  by_cases hnm : n = m
  · subst hnm
    have hnn : ((n : Int) != (n : Int)) = false := by simp
    go_enter Tryd.func46, Tryd.ntmps46
    go_wp2
    go_loopw [5] (fun i wr => ∃ k : Nat, k ≤ n ∧ i = .int .i64 k ∧ (∀ j, j < k → gi xs j = gi ys j) ∧ ∃ q, wr = w.drewN q) (fun i _ => n - (intOf i).toNat)
    case atStart => exact ⟨0, Nat.zero_le _, rfl, by omega, 0, rfl⟩
    case round =>
      obtain ⟨k, hk, rfl, hall, q, rfl⟩ := hrel
      by_cases hlt : k < n
      · obtain ⟨b, off, rfl, hc1⟩ := ha.at_ hlt
        obtain ⟨b', off', rfl, hc2⟩ := hb.at_ hlt
        have hki : (k : Int) < (n : Int) := by omega
        have hk0 : (0 : Int) ≤ (k : Int) := by omega
        by_cases he : gi xs k = gi ys k
        · have H := Lib.hid he
          have hne : (gi xs k != gi ys k) = false := by simp [he]
          clear he
          go_wp2
          go_quiet (fail)
          go_wp2
          go_roundw
          case rel => exact ⟨k + 1, by omega, by go_num, all_succ hall H.out, _, rfl⟩
          case measure => simp [intOf]; omega
        · have H := Lib.hid he
          have hne : (gi xs k != gi ys k) = true := by simp [he]
          clear he
          go_wp2
          go_quiet (fail)
          go_wp2
          go_ret
          exact ⟨ret_b (eqL_ne H.out).symm, Qt.drew2 _ _⟩
      · go_wp2
        go_ret
        obtain rfl : k = n := by omega
        exact ⟨ret_b (eqL_of ha.1 hb.1 hall).symm, _, rfl⟩
  · have hnn : ((n : Int) != (m : Int)) = true := by simp; omega
    have H := Lib.hid hnm
    clear hnm
    go_enter Tryd.func46, Tryd.ntmps46
    go_wp2
    go_ret
    exact ⟨ret_b (eqL_len (by rw [ha.1, hb.1]; exact H.out)).symm, Qt.refl _⟩


end Go.Proofs.YtkhkdnmpbfmmeaaDoor
