/- Slices of places: how they read; l16SameInts, slices.Equal, l17Find, slices.IndexFunc, placeIn, PlaceIn. -/
import Derived.Test.YtfjhkjikfjpnpaaFn4
namespace Go.Proofs.Ytfjhkjikfjpnpaa
open Go.RowKit

abbrev PlaceD := Int × List Int
def gq (ps : List PlaceD) (i : Nat) : PlaceD := ps.getD i (0, [])
theorem gq_get {xs : List PlaceD} {i : Nat} (h : i < xs.length) : gq xs i = xs[i] := by simp [gq, h]
theorem gq_ext {xs ys : List PlaceD} (hl : xs.length = ys.length) (h : ∀ j, j < xs.length → gq xs j = gq ys j) : xs = ys := by
  refine List.ext_getElem hl fun i a b => ?_
  have := h i a
  rwa [gq_get a, gq_get b] at this
/-- a slice of places that reads as a list -/
def RQS (w : World) (A : Option Addr) (n c : Nat) (ps : List PlaceD) : Prop :=
  ps.length = n ∧ (n ≤ c ∧ c ≤ 9223372036854775807) ∧ ∀ i, i < n → ∃ b off A2 n2 c2, A = some ⟨b, off, none⟩ ∧
    w.cell? ⟨b, off + i * 2, none⟩ = some (.int .i64 (gq ps i).1) ∧ w.cell? ⟨b, off + i * 2 + 1, none⟩ = some (.slice A2 n2 c2) ∧ RI w A2 n2 c2 (gq ps i).2
section
variable {w w' : World} {A : Option Addr} {n c : Nat} {ps : List PlaceD}
theorem RQS.len (h : RQS w A n c ps) : ps.length = n := h.1
theorem RQS.cap (h : RQS w A n c ps) : n ≤ c := h.2.1.1
theorem RQS.top (h : RQS w A n c ps) : c ≤ 9223372036854775807 := h.2.1.2
theorem RQS.at_ (h : RQS w A n c ps) {i : Nat} (hi : i < n) : ∃ b off A2 n2 c2, A = some ⟨b, off, none⟩ ∧
    w.cell? ⟨b, off + i * 2, none⟩ = some (.int .i64 (gq ps i).1) ∧ w.cell? ⟨b, off + i * 2 + 1, none⟩ = some (.slice A2 n2 c2) ∧ RI w A2 n2 c2 (gq ps i).2 := h.2.2 i hi
theorem RQS.keep (h : RQS w A n c ps) (k : Keeps w w') : RQS w' A n c ps :=
  ⟨h.1, h.2.1, fun i hi => by
    obtain ⟨b, off, A2, n2, c2, e, hc1, hc2, h2⟩ := h.2.2 i hi
    exact ⟨b, off, A2, n2, c2, e, k _ _ hc1, k _ _ hc2, h2.keep k⟩⟩
end
/-- is it the place sought? -/
def isAt (at_ : Int) (rc : List Int) (p : PlaceD) : Bool := (p.1 == at_) && eqL p.2 rc
def findQ (ps : List PlaceD) (at_ : Int) (rc : List Int) : Int := firstI (fun i => isAt at_ rc (gq ps i)) ps.length

set_option maxHeartbeats 400000 in
theorem slicesEqual (A B : Option Addr) (n m c d : Nat) (xs ys : List Int) (w : World) (ha : RI w A n c xs) (hb : RI w B m d ys) :
    Calls Try.prog 160 #[.slice A n c, .slice B m d] w fun e w' => e = .returned (.bool (eqL xs ys)) ∧ Qt w w' := by
  have b1 := ha.cap; have b2 := ha.top; have b3 := hb.cap; have b4 := hb.top
  by_cases hnm : n = m
  · subst hnm
    have hnn : ((n : Int) != (n : Int)) = false := by simp
    go_enter Try.func160, Try.ntmps160
    go_wp2
    go_loopw [13] (fun i wr => ∃ k : Nat, k ≤ n ∧ i = .int .i64 k ∧ (∀ j, j < k → gi xs j = gi ys j) ∧ ∃ q, wr = w.drewN q) (fun i _ => n - (intOf i).toNat)
    case atStart => exact ⟨0, Nat.zero_le _, rfl, by omega, 0, rfl⟩
    case round =>
      obtain ⟨k, hk, rfl, hall, q, rfl⟩ := hrel
      by_cases hlt : k < n
      · obtain ⟨b, off, rfl, hc1⟩ := ha.at_ hlt
        obtain ⟨b', off', rfl, hc2⟩ := hb.at_ hlt
        have hki : (k : Int) < (n : Int) := by omega
        have hk0 : (0 : Int) ≤ (k : Int) := by omega
        by_cases he : gi xs k = gi ys k
        · have H := Lib.hid he
          have hne : (gi xs k != gi ys k) = false := by simp [he]
          clear he
          go_wp2
          go_quiet (fail)
          go_wp2
          go_roundw
          case rel => exact ⟨k + 1, by omega, by go_num, all_succ hall H.out, _, rfl⟩
          case measure => simp [intOf]; omega
        · have H := Lib.hid he
          have hne : (gi xs k != gi ys k) = true := by simp [he]
          clear he
          go_wp2
          go_quiet (fail)
          go_wp2
          go_ret
          exact ⟨ret_b (eqL_ne H.out).symm, Qt.drew2 _ _⟩
      · go_wp2
        go_ret
        obtain rfl : k = n := by omega
        exact ⟨ret_b (eqL_of ha.1 hb.1 hall).symm, _, rfl⟩
  · have hnn : ((n : Int) != (m : Int)) = true := by simp; omega
    have H := Lib.hid hnm
    clear hnm
    go_enter Try.func160, Try.ntmps160
    go_wp2
    go_ret
    exact ⟨ret_b (eqL_len (by rw [ha.1, hb.1]; exact H.out)).symm, Qt.refl _⟩

def placeF (ps : List PlaceD) (x : Int) (xs : List Int) : Int := if 256 < ps.length then -1 else findQ ps x xs
end Go.Proofs.Ytfjhkjikfjpnpaa
