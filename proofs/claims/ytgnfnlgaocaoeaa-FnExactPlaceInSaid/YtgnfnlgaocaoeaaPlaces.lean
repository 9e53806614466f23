/- Slices of places: how they read; l16SameInts, slices.Equal, l17Find, slices.IndexFunc, placeIn, PlaceIn. -/
import Derived.Test.YtgnfnlgaocaoeaaFn4
namespace Go.Proofs.Ytgnfnlgaocaoeaa
open Go.RowKit

abbrev PlaceD := Int × List Int
def gq (ps : List PlaceD) (i : Nat) : PlaceD := ps.getD i (0, [])
theorem gq_get {xs : List PlaceD} {i : Nat} (h : i < xs.length) : gq xs i = xs[i] := by simp [gq, h]
theorem gq_ext {xs ys : List PlaceD} (hl : xs.length = ys.length) (h : ∀ j, j < xs.length → gq xs j = gq ys j) : xs = ys := by
  refine List.ext_getElem hl fun i a b => ?_
  have := h i a
  rwa [gq_get a, gq_get b] at this
/-- a slice of places that reads as a list -/
def RQS (w : World) (A : Option Addr) (n c : Nat) (ps : List PlaceD) : Prop :=
  ps.length = n ∧ (n ≤ c ∧ c ≤ 9223372036854775807) ∧ ∀ i, i < n → ∃ b off A2 n2 c2, A = some ⟨b, off, none⟩ ∧
    w.cell? ⟨b, off + i * 2, none⟩ = some (.int .i64 (gq ps i).1) ∧ w.cell? ⟨b, off + i * 2 + 1, none⟩ = some (.slice A2 n2 c2) ∧ RI w A2 n2 c2 (gq ps i).2
section
variable {w w' : World} {A : Option Addr} {n c : Nat} {ps : List PlaceD}
theorem RQS.len (h : RQS w A n c ps) : ps.length = n := h.1
theorem RQS.cap (h : RQS w A n c ps) : n ≤ c := h.2.1.1
theorem RQS.top (h : RQS w A n c ps) : c ≤ 9223372036854775807 := h.2.1.2
theorem RQS.at_ (h : RQS w A n c ps) {i : Nat} (hi : i < n) : ∃ b off A2 n2 c2, A = some ⟨b, off, none⟩ ∧
    w.cell? ⟨b, off + i * 2, none⟩ = some (.int .i64 (gq ps i).1) ∧ w.cell? ⟨b, off + i * 2 + 1, none⟩ = some (.slice A2 n2 c2) ∧ RI w A2 n2 c2 (gq ps i).2 := h.2.2 i hi
theorem RQS.keep (h : RQS w A n c ps) (k : Keeps w w') : RQS w' A n c ps :=
  ⟨h.1, h.2.1, fun i hi => by
    obtain ⟨b, off, A2, n2, c2, e, hc1, hc2, h2⟩ := h.2.2 i hi
    exact ⟨b, off, A2, n2, c2, e, k _ _ hc1, k _ _ hc2, h2.keep k⟩⟩
end
/-- is it the place sought? -/
def isAt (at_ : Int) (rc : List Int) (p : PlaceD) : Bool := (p.1 == at_) && eqL p.2 rc
def findQ (ps : List PlaceD) (at_ : Int) (rc : List Int) : Int := firstI (fun i => isAt at_ rc (gq ps i)) ps.length

set_option maxHeartbeats 400000 in
theorem sameInts (A B : Option Addr) (n m c d : Nat) (xs ys : List Int) (w : World) (ha : RI w A n c xs) (hb : RI w B m d ys) :
    Calls Try.prog 62 #[.slice A n c, .slice B m d] w fun e w' => e = .returned (.bool (eqL xs ys)) ∧ Qt w w' := by
  have b1 := ha.cap; have b2 := ha.top; have b3 := hb.cap; have b4 := hb.top
  by_cases hnm : n = m
  · subst hnm
    have hnn : ((n : Int) != (n : Int)) = false := by simp
    go_enter Try.func62, Try.ntmps62
    go_wp2
    go_loopw [5] (fun i wr => ∃ k : Nat, k ≤ n ∧ i = .int .i64 k ∧ (∀ j, j < k → gi xs j = gi ys j) ∧ ∃ q, wr = w.drewN q) (fun i _ => n - (intOf i).toNat)
    case atStart => exact ⟨0, Nat.zero_le _, rfl, by omega, 0, rfl⟩
    case round =>
      obtain ⟨k, hk, rfl, hall, q, rfl⟩ := hrel
      by_cases hlt : k < n
      · obtain ⟨b, off, rfl, hc1⟩ := ha.at_ hlt
        obtain ⟨b', off', rfl, hc2⟩ := hb.at_ hlt
        have hki : (k : Int) < (n : Int) := by omega
        have hk0 : (0 : Int) ≤ (k : Int) := by omega
        by_cases he : gi xs k = gi ys k
        · have H := Lib.hid he
          have hne : (gi xs k != gi ys k) = false := by simp [he]
          clear he
          go_wp2
          go_quiet (fail)
          go_wp2
          go_roundw
          case rel => exact ⟨k + 1, by omega, by go_num, all_succ hall H.out, _, rfl⟩
          case measure => simp [intOf]; omega
        · have H := Lib.hid he
          have hne : (gi xs k != gi ys k) = true := by simp [he]
          clear he
          go_wp2
          go_quiet (fail)
          go_wp2
          go_ret
          exact ⟨ret_b (eqL_ne H.out).symm, Qt.drew2 _ _⟩
      · go_wp2
        go_ret
        obtain rfl : k = n := by omega
        exact ⟨ret_b (eqL_of ha.1 hb.1 hall).symm, _, rfl⟩
  · have hnn : ((n : Int) != (m : Int)) = true := by simp; omega
    have H := Lib.hid hnm
    clear hnm
    go_enter Try.func62, Try.ntmps62
    go_wp2
    go_ret
    exact ⟨ret_b (eqL_len (by rw [ha.1, hb.1]; exact H.out)).symm, Qt.refl _⟩



set_option maxHeartbeats 400000 in
theorem slicesEqual (A B : Option Addr) (n m c d : Nat) (xs ys : List Int) (w : World) (ha : RI w A n c xs) (hb : RI w B m d ys) :
    Calls Try.prog 65 #[.slice A n c, .slice B m d] w fun e w' => e = .returned (.bool (eqL xs ys)) ∧ Qt w w' := by
  have b1 := ha.cap; have b2 := ha.top; have b3 := hb.cap; have b4 := hb.top
  by_cases hnm : n = m
  · subst hnm
    have hnn : ((n : Int) != (n : Int)) = false := by simp
    go_enter Try.func65, Try.ntmps65
    go_wp2
    go_loopw [13] (fun i wr => ∃ k : Nat, k ≤ n ∧ i = .int .i64 k ∧ (∀ j, j < k → gi xs j = gi ys j) ∧ ∃ q, wr = w.drewN q) (fun i _ => n - (intOf i).toNat)
    case atStart => exact ⟨0, Nat.zero_le _, rfl, by omega, 0, rfl⟩
    case round =>
      obtain ⟨k, hk, rfl, hall, q, rfl⟩ := hrel
      by_cases hlt : k < n
      · obtain ⟨b, off, rfl, hc1⟩ := ha.at_ hlt
        obtain ⟨b', off', rfl, hc2⟩ := hb.at_ hlt
        have hki : (k : Int) < (n : Int) := by omega
        have hk0 : (0 : Int) ≤ (k : Int) := by omega
        by_cases he : gi xs k = gi ys k
        · have H := Lib.hid he
          have hne : (gi xs k != gi ys k) = false := by simp [he]
          clear he
          go_wp2
          go_quiet (fail)
          go_wp2
          go_roundw
          case rel => exact ⟨k + 1, by omega, by go_num, all_succ hall H.out, _, rfl⟩
          case measure => simp [intOf]; omega
        · have H := Lib.hid he
          have hne : (gi xs k != gi ys k) = true := by simp [he]
          clear he
          go_wp2
          go_quiet (fail)
          go_wp2
          go_ret
          exact ⟨ret_b (eqL_ne H.out).symm, Qt.drew2 _ _⟩
      · go_wp2
        go_ret
        obtain rfl : k = n := by omega
        exact ⟨ret_b (eqL_of ha.1 hb.1 hall).symm, _, rfl⟩
  · have hnn : ((n : Int) != (m : Int)) = true := by simp; omega
    have H := Lib.hid hnm
    clear hnm
    go_enter Try.func65, Try.ntmps65
    go_wp2
    go_ret
    exact ⟨ret_b (eqL_len (by rw [ha.1, hb.1]; exact H.out)).symm, Qt.refl _⟩

set_option maxHeartbeats 400000 in
theorem l17Find (A A' : Option Addr) (n c m d : Nat) (ps : List PlaceD) (x : Int) (xs : List Int) (w : World) (ha : RQS w A n c ps) (hb : RI w A' m d xs) :
    Calls Try.prog 48 #[.slice A n c, .int .i64 x, .slice A' m d] w fun e w' => e = .returned (.int .i64 (findQ ps x xs)) ∧ Qt w w' := by
  have b1 := ha.cap; have b2 := ha.top
  go_enter Try.func48, Try.ntmps48
  go_wp2
  go_loopw [7] (fun i wr => ∃ k : Nat, k ≤ n ∧ i = .int .i64 k ∧ (∀ j, j < k → isAt x xs (gq ps j) = false) ∧ ∃ q, wr = w.drewN q) (fun i _ => n - (intOf i).toNat)
  case atStart => exact ⟨0, Nat.zero_le _, rfl, by omega, 0, rfl⟩
  case round =>
    obtain ⟨k, hk, rfl, hall, q, rfl⟩ := hrel
    have HA := Lib.hid hall
    clear hall
    by_cases hlt : k < n
    · obtain ⟨b, off, A2, n2, c2, rfl, hc1, hc2, r2⟩ := ha.at_ hlt
      by_cases h1 : ((gq ps k).1 == x) = true
      · by_cases h2 : eqL (gq ps k).2 xs = true
        · have E := Lib.hid (show findQ ps x xs = (k : Int) from firstI_hit (show isAt x xs (gq ps k) = true by unfold isAt; rw [h1, h2]; rfl) HA.out (by rw [ha.len]; exact hlt))
          go_wp2_with (go_at_call 62; refine (sameInts _ _ _ _ _ _ _ _ _ (r2.keep (Qt.keeps ⟨_, rfl⟩)) (hb.keep (Qt.keeps ⟨_, rfl⟩))).mono ?_; rintro e w' ⟨rfl, q1, rfl⟩)
          go_ret
          exact ⟨ret_i E.out.symm, _, rfl⟩
        · replace h2 : eqL (gq ps k).2 xs = false := by simpa using h2
          have H := Lib.hid (show isAt x xs (gq ps k) = false by unfold isAt; rw [h2, Bool.and_false])
          go_wp2_with (go_at_call 62; refine (sameInts _ _ _ _ _ _ _ _ _ (r2.keep (Qt.keeps ⟨_, rfl⟩)) (hb.keep (Qt.keeps ⟨_, rfl⟩))).mono ?_; rintro e w' ⟨rfl, q1, rfl⟩)
          go_roundw
          case rel => exact ⟨k + 1, by omega, by go_num, all_succ HA.out H.out, _, rfl⟩
          case measure => simp [intOf]; omega
      · replace h1 : ((gq ps k).1 == x) = false := by simpa using h1
        have H := Lib.hid (show isAt x xs (gq ps k) = false by unfold isAt; rw [h1, Bool.false_and])
        go_wp2
        go_roundw
        case rel => exact ⟨k + 1, by omega, by go_num, all_succ HA.out H.out, _, rfl⟩
        case measure => simp [intOf]; omega
    · obtain rfl : k = n := by omega
      have E := Lib.hid (show findQ ps x xs = -1 from firstI_none (by rw [ha.len]; exact HA.out))
      go_wp2
      go_ret
      exact ⟨ret_i E.out.symm, _, rfl⟩

def placeF (ps : List PlaceD) (x : Int) (xs : List Int) : Int := if 256 < ps.length then -1 else findQ ps x xs
theorem specPlaceIn (A A' : Option Addr) (n c m d : Nat) (ps : List PlaceD) (x : Int) (xs : List Int) (w : World) (ha : RQS w A n c ps) (hb : RI w A' m d xs) :
    Calls Try.prog 24 #[.slice A n c, .int .i64 x, .slice A' m d] w fun e w' => e = .returned (.int .i64 (placeF ps x xs)) ∧ Qt w w' := by
  have b1 := ha.cap; have b2 := ha.top
  have hl := ha.len
  by_cases h : 256 < n
  · have E := Lib.hid (show (placeF ps x xs) = -1 from if_pos (by omega))
    clear hl
    go_enter Try.func24, Try.ntmps24
    go_wp2
    go_ret
    exact ⟨ret_i E.out.symm, Qt.refl _⟩
  · have E := Lib.hid (show (placeF ps x xs) = findQ ps x xs from if_neg (by omega))
    clear hl
    go_enter Try.func24, Try.ntmps24
    go_wp2_with (go_at_call 48; refine (l17Find _ _ _ _ _ _ _ _ _ _ ha hb).mono ?_; rintro e w' ⟨rfl, q1, rfl⟩)
    go_ret
    exact ⟨ret_i E.out.symm, _, rfl⟩

set_option maxHeartbeats 400000 in
/-- the closure that placeIn hands to slices.IndexFunc: what it captured is read -/
theorem placeFn (A2 A' : Option Addr) (n2 c2 m d : Nat) (y : Int) (ys : List Int) (x : Int) (xs : List Int) (p1 p2 : Addr) (w : World) (B : Nat) (hB : B ≤ w.heap.size)
    (k1 : w.cell? p1 = some (.int .i64 x)) (k2 : w.cell? p2 = some (.slice A' m d)) (hr : RI w A2 n2 c2 ys) (hb : RI w A' m d xs) :
    Calls Try.prog 64 #[.agg #[.int .i64 y, .slice A2 n2 c2], .pointer (some p1), .pointer (some p2)] w fun e w' => e = .returned (.bool (isAt x xs (y, ys))) ∧ Below B w w' := by
  have K := keeps_alloc w (.cells #[.int .i64 y, .slice A2 n2 c2] 72)
  have k1' := K _ _ k1
  have k2' := K _ _ k2
  by_cases h1 : (y == x) = true
  · have E := Lib.hid (show isAt x xs (y, ys) = eqL ys xs by unfold isAt; rw [h1, Bool.true_and])
    go_enter Try.func64, Try.ntmps64
    go_wp2_with (go_at_call 65; refine (slicesEqual _ _ _ _ _ _ _ _ _ (hr.keep K) (hb.keep K)).mono ?_; rintro e w' ⟨rfl, q1, rfl⟩)
    go_ret
    exact ⟨ret_b E.out.symm, below_drewN (below_alloc hB (Below.refl _ _)) _⟩
  · replace h1 : (y == x) = false := by simpa using h1
    have E := Lib.hid (show isAt x xs (y, ys) = false by unfold isAt; rw [h1, Bool.false_and])
    go_enter Try.func64, Try.ntmps64
    go_wp2
    go_ret
    exact ⟨ret_b E.out.symm, below_alloc hB (Below.refl _ _)⟩

set_option maxHeartbeats 400000 in
theorem indexPlace (A A' : Option Addr) (n c m d : Nat) (ps : List PlaceD) (x : Int) (xs : List Int) (p1 p2 : Addr) (w : World) (B : Nat) (hB : B ≤ w.heap.size)
    (ha : RQS w A n c ps) (hb : RI w A' m d xs) (k1 : w.cell? p1 = some (.int .i64 x)) (k2 : w.cell? p2 = some (.slice A' m d)) :
    Calls Try.prog 63 #[.slice A n c, .func (.func 64) #[] #[.pointer (some p1), .pointer (some p2)]] w
      fun e w' => e = .returned (.int .i64 (findQ ps x xs)) ∧ Below B w w' := by
  have b1 := ha.cap; have b2 := ha.top
  go_enter Try.func63, Try.ntmps63
  go_wp2
  go_loopw [8] (fun i wr => ∃ k : Nat, k ≤ n ∧ i = .int .i64 k ∧ (∀ j, j < k → isAt x xs (gq ps j) = false) ∧ Below w.heap.size w wr) (fun i _ => n - (intOf i).toNat)
  case atStart => exact ⟨0, Nat.zero_le _, rfl, by omega, Below.refl _ _⟩
  case round =>
    obtain ⟨k, hk, rfl, hall, hbr⟩ := hrel
    have HA := Lib.hid hall
    clear hall
    have K := keeps_below hbr
    by_cases hlt : k < n
    · obtain ⟨b, off, A2, n2, c2, rfl, hc1, hc2, r2⟩ := (ha.keep K).at_ hlt
      by_cases h1 : isAt x xs (gq ps k) = true
      · have E := Lib.hid (show findQ ps x xs = (k : Int) from firstI_hit h1 HA.out (by rw [ha.len]; exact hlt))
        go_wp2_with fail
        refine (placeFn _ _ _ _ _ _ _ _ _ _ _ _ _ _ (Nat.le_refl _) (K _ _ k1) (K _ _ k2) r2 (hb.keep K)).mono ?_; rintro e w1 ⟨rfl, hb1⟩
        rw [h1]
        go_wp2
        go_ret
        exact ⟨ret_i E.out.symm, (below_then hb1 hbr.size hbr).mono hB⟩
      · replace h1 : isAt x xs (gq ps k) = false := by simpa using h1
        go_wp2_with fail
        refine (placeFn _ _ _ _ _ _ _ _ _ _ _ _ _ _ (Nat.le_refl _) (K _ _ k1) (K _ _ k2) r2 (hb.keep K)).mono ?_; rintro e w1 ⟨rfl, hb1⟩
        rw [h1]
        go_wp2
        go_roundw
        case rel => exact ⟨k + 1, by omega, by go_num, all_succ HA.out h1, below_then hb1 hbr.size hbr⟩
        case measure => simp [intOf]; omega
    · obtain rfl : k = n := by omega
      have E := Lib.hid (show findQ ps x xs = -1 from firstI_none (by rw [ha.len]; exact HA.out))
      go_wp2
      go_ret
      exact ⟨ret_i E.out.symm, hbr.mono hB⟩

set_option maxHeartbeats 400000 in
theorem placeIn (A A' : Option Addr) (n c m d : Nat) (ps : List PlaceD) (x : Int) (xs : List Int) (w : World) (B : Nat) (hB : B ≤ w.heap.size) (ha : RQS w A n c ps) (hb : RI w A' m d xs) :
    Calls Try.prog 50 #[.slice A n c, .int .i64 x, .slice A' m d] w fun e w' => e = .returned (.int .i64 (findQ ps x xs)) ∧ Below B w w' := by
  have hmf : ∀ (fn : Fn) (first cap : Array Value) (w : World), (Instr.makeFunc fn first cap).run Try.prog w = .ok (.func fn first cap) w := fun _ _ _ _ => rfl
  have hbw : Below w.heap.size w ((w.alloc (.cells #[.int .i64 x] 2)).alloc (.cells #[.slice A' m d] 22)) := below_alloc (Nat.le_refl _) (below_alloc (Nat.le_refl _) (Below.refl _ _))
  have K := keeps_below hbw
  have k1 : ((w.alloc (.cells #[.int .i64 x] 2)).alloc (.cells #[.slice A' m d] 22)).cell? ⟨w.heap.size, 0, none⟩ = some (.int .i64 x) := by simp [go_sem]
  have k2 : ((w.alloc (.cells #[.int .i64 x] 2)).alloc (.cells #[.slice A' m d] 22)).cell? ⟨w.heap.size + 1, 0, none⟩ = some (.slice A' m d) := by simp [go_sem]
  go_enter Try.func50, Try.ntmps50
  go_wp2_with fail
  refine (indexPlace _ _ _ _ _ _ _ _ _ _ _ _ _ (Nat.le_refl _) (ha.keep K) (hb.keep K) k1 k2).mono ?_; rintro e w1 ⟨rfl, hb1⟩
  go_wp2
  go_ret
  exact ⟨rfl, (below_then hb1 hbw.size hbw).mono hB⟩

theorem implPlaceIn (A A' : Option Addr) (n c m d : Nat) (ps : List PlaceD) (x : Int) (xs : List Int) (w : World) (B : Nat) (hB : B ≤ w.heap.size) (ha : RQS w A n c ps) (hb : RI w A' m d xs) :
    Calls Try.prog 26 #[.slice A n c, .int .i64 x, .slice A' m d] w fun e w' => e = .returned (.int .i64 (placeF ps x xs)) ∧ Below B w w' := by
  have b1 := ha.cap; have b2 := ha.top
  have hl := ha.len
  by_cases h : 256 < n
  · have E := Lib.hid (show placeF ps x xs = -1 from if_pos (by omega))
    clear hl
    go_enter Try.func26, Try.ntmps26
    go_wp2
    go_ret
    exact ⟨ret_i E.out.symm, Below.refl _ _⟩
  · have E := Lib.hid (show placeF ps x xs = findQ ps x xs from if_neg (by omega))
    clear hl
    go_enter Try.func26, Try.ntmps26
    go_wp2_with (go_at_call 50; refine (placeIn _ _ _ _ _ _ _ _ _ _ _ hB ha hb).mono ?_; rintro e w' ⟨rfl, hb1⟩)
    go_ret
    exact ⟨ret_i E.out.symm, hb1⟩
end Go.Proofs.Ytgnfnlgaocaoeaa
