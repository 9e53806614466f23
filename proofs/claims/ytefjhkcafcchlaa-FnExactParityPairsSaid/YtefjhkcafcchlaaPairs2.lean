/- Slices of pairs: sz, to, eq. -/
import Derived.Test.YtefjhkcafcchlaaPairs
import Derived.Deep.RegionHeld3
namespace Go.Proofs.Ytefjhkcafcchlaa
open Go.RowKit

def szP (p : PairD) : Nat := p.1.length + p.2.length
def sumP (ps : List PairD) (k : Nat) : Nat := ((ps.take k).map szP).sum
def szPs (ps : List PairD) : Nat := ps.length + (ps.map szP).sum
theorem sumP_succ {ps : List PairD} {k : Nat} (h : k < ps.length) : sumP ps (k + 1) = sumP ps k + szP (gp ps k) := by
  unfold sumP
  rw [List.take_succ_eq_append_getElem h, List.map_append, List.sum_append, gp_get h]
  simp
theorem sumP_all {ps : List PairD} {k : Nat} (h : ps.length = k) : szPs ps = k + sumP ps k := by
  unfold sumP szPs
  rw [← h, List.take_length]
theorem sumP_mono {ps : List PairD} {k m : Nat} (h : k ≤ m) : sumP ps k ≤ sumP ps m := by
  have key : ∀ (qs : List PairD) (k : Nat), ((qs.take k).map szP).sum ≤ (qs.map szP).sum := by
    intro qs
    induction qs with
    | nil => simp
    | cons a r ih =>
      intro k
      cases k with
      | zero => simp
      | succ k => simp only [List.take_succ_cons, List.map_cons, List.sum_cons]; have := ih k; omega
  unfold sumP
  rw [show ps.take k = (ps.take m).take k from by rw [List.take_take, Nat.min_eq_left h]]
  exact key _ _

set_option maxHeartbeats 400000 in
theorem szPairS (A : Option Addr) (m c : Nat) (ps : List PairD) (l : Int) (w : World) (B : Nat) (hB : B ≤ w.heap.size) (ha : RPS w A m c ps) (h0 : 0 ≤ l) (h1 : l ≤ 1048576) :
    Calls Try.prog 74 #[.slice A m c, .int .i64 l] w fun e w' => e = .returned (.int .i64 (szF l (szPs ps))) ∧ Below B w w' := by
  have b1 := ha.cap; have b2 := ha.top
  have hall := sumP_all ha.len
  have HALL := Lib.hid hall
  clear hall
  by_cases hm : (m : Int) ≤ l
  · go_enter Try.func74, Try.ntmps74
    go_wp2
    go_loopw [1, 5] (fun s i wr => ∃ (k : Nat) (r : Int), k ≤ m ∧ i = .int .i64 k ∧ s = .int .i64 r ∧ 0 ≤ r ∧ r ≤ l ∧ r = l - m - sumP ps k ∧ Below w.heap.size w wr) (fun _ i _ => m - (intOf i).toNat)
    case atStart => exact ⟨0, l - m, Nat.zero_le _, rfl, rfl, by omega, by omega, by simp [sumP], Below.refl _ _⟩
    case round =>
      obtain ⟨k, r, hk, rfl, rfl, hr0, hr1, hr, hbr⟩ := hrel
      have HR := Lib.hid hr
      clear hr
      by_cases hlt : k < m
      · obtain ⟨b, off, A1, n1, c1, A2, n2, c2, rfl, hc1, hc2, r1, r2⟩ := (ha.keep (keeps_below hbr)).at_ hlt
        have t1 := r1.cap; have t2 := r1.top; have t3 := r2.cap; have t4 := r2.top
        have hs : ((sumP ps (k + 1) : Nat) : Int) = sumP ps k + (n1 + n2) := by
          rw [sumP_succ (by rw [ha.len]; exact hlt)]; unfold szP; rw [r1.len, r2.len]; omega
        have HS := Lib.hid hs
        clear hs
        by_cases h2 : (n1 : Int) + n2 ≤ r
        · have E1 := Lib.hid (szF_yes h2)
          go_wp2_with fail
          refine (szPair _ _ _ _ _ _ _ _ _ (Nat.le_refl _) hr0 (by omega) (by omega) (by omega)).mono ?_; rintro e w1 ⟨rfl, hb1⟩
          rw [E1.out]
          go_wp2
          go_roundw
          case rel => exact ⟨k + 1, r - (n1 + n2), by omega, by go_num, rfl, by omega, by omega, by rw [HS.out, HR.out]; omega, below_then hb1 hbr.size hbr⟩
          case measure => simp [intOf]; omega
        · have E1 := Lib.hid (szF_no h2)
          have E2 := Lib.hid (show szF l (szPs ps) = -1 from szF_no (by
            rw [HALL.out]
            have h5 := sumP_mono (ps := ps) (show k + 1 ≤ m by omega)
            have h6 := HS.out
            have h7 := HR.out
            omega))
          go_wp2_with fail
          refine (szPair _ _ _ _ _ _ _ _ _ (Nat.le_refl _) hr0 (by omega) (by omega) (by omega)).mono ?_; rintro e w1 ⟨rfl, hb1⟩
          rw [E1.out]
          go_wp2
          go_ret
          exact ⟨ret_i E2.out.symm, (below_then hb1 hbr.size hbr).mono hB⟩
      · obtain rfl : k = m := by omega
        have E2 := Lib.hid (show szF l (szPs ps) = r from by
          rw [szF_yes (by rw [HALL.out]; have := HR.out; omega), HALL.out, HR.out]; omega)
        go_wp2
        go_ret
        exact ⟨ret_i E2.out.symm, hbr.mono hB⟩
  · have E2 := Lib.hid (show szF l (szPs ps) = -1 from szF_no (by rw [HALL.out]; omega))
    go_enter Try.func74, Try.ntmps74
    go_wp2
    go_ret
    exact ⟨ret_i E2.out.symm, Below.refl _ _⟩

def eqPs (ps qs : List PairD) : Bool := decide (ps = qs)
theorem gp_ext {xs ys : List PairD} (hl : xs.length = ys.length) (h : ∀ j, j < xs.length → gp xs j = gp ys j) : xs = ys := by
  refine List.ext_getElem hl fun i a b => ?_
  have := h i a
  rwa [gp_get a, gp_get b] at this

set_option maxHeartbeats 400000 in
theorem eqPairS (A A' : Option Addr) (n c m d : Nat) (ps qs : List PairD) (w : World) (B : Nat) (hB : B ≤ w.heap.size) (ha : RPS w A n c ps) (hb : RPS w A' m d qs) :
    Calls Try.prog 63 #[.slice A n c, .slice A' m d] w fun e w' => e = .returned (.bool (eqPs ps qs)) ∧ Below B w w' := by
  have b1 := ha.cap; have b2 := ha.top; have b3 := hb.cap; have b4 := hb.top
  by_cases hnm : n = m
  · subst hnm
    have hnn : ((n : Int) != (n : Int)) = false := by simp
    go_enter Try.func63, Try.ntmps63
    go_wp2
    go_loopw [5] (fun i wr => ∃ k : Nat, k ≤ n ∧ i = .int .i64 k ∧ (∀ j, j < k → gp ps j = gp qs j) ∧ Below w.heap.size w wr) (fun i _ => n - (intOf i).toNat)
    case atStart => exact ⟨0, Nat.zero_le _, rfl, by omega, Below.refl _ _⟩
    case round =>
      obtain ⟨k, hk, rfl, hall, hbr⟩ := hrel
      have HA := Lib.hid hall
      clear hall
      by_cases hlt : k < n
      · have hki : (k : Int) < (n : Int) := by omega
        have hk0 : (0 : Int) ≤ (k : Int) := by omega
        obtain ⟨b, off, A1, n1, c1, A2, n2, c2, rfl, hc1, hc2, r1, r2⟩ := (ha.keep (keeps_below hbr)).at_ hlt
        obtain ⟨b', off', A3, n3, c3, A4, n4, c4, rfl, hc3, hc4, r3, r4⟩ := (hb.keep (keeps_below hbr)).at_ hlt
        by_cases he : (eqL (gp ps k).1 (gp qs k).1 && eqL (gp ps k).2 (gp qs k).2) = true
        · have H := Lib.hid (show gp ps k = gp qs k by
            rw [Bool.and_eq_true] at he
            exact Prod.ext (of_decide_eq_true he.1) (of_decide_eq_true he.2))
          go_wp2
          go_region_held3 (fun w' => w'.cell? ⟨b, off + k * 2, none⟩ = some (.slice A1 n1 c1) ∧ w'.cell? ⟨b, off + k * 2 + 1, none⟩ = some (.slice A2 n2 c2) ∧ w'.cell? ⟨b', off' + k * 2, none⟩ = some (.slice A3 n3 c3) ∧ w'.cell? ⟨b', off' + k * 2 + 1, none⟩ = some (.slice A4 n4 c4)) (first | exact ⟨hc1, hc2, hc3, hc4⟩ | exact ⟨K1 _ _ hc1, K1 _ _ hc2, K1 _ _ hc3, K1 _ _ hc4⟩)
            (first
              | (go_at_call 137; refine (eqPair _ _ _ _ _ _ _ _ _ _ _ _ _ _ _ _ _ _ (Nat.le_refl _) (by exact r1) (by exact r2) (by exact r3) (by exact r4)).mono ?_; rintro e w1 ⟨rfl, hb1⟩; replace hb1 := below_undrew hb1; have K1 := keeps_below hb1))
          go_wp2
          go_roundw
          case rel => exact ⟨k + 1, by omega, by go_num, all_succ HA.out H.out, below_then hb1 hbr.size hbr⟩
          case measure => simp [intOf]; omega
        · replace he : (eqL (gp ps k).1 (gp qs k).1 && eqL (gp ps k).2 (gp qs k).2) = false := by simpa using he
          have E := Lib.hid (show eqPs ps qs = false from decide_eq_false (by
            rintro rfl
            simp [eqL] at he))
          go_wp2
          go_region_held3 (fun w' => w'.cell? ⟨b, off + k * 2, none⟩ = some (.slice A1 n1 c1) ∧ w'.cell? ⟨b, off + k * 2 + 1, none⟩ = some (.slice A2 n2 c2) ∧ w'.cell? ⟨b', off' + k * 2, none⟩ = some (.slice A3 n3 c3) ∧ w'.cell? ⟨b', off' + k * 2 + 1, none⟩ = some (.slice A4 n4 c4)) (first | exact ⟨hc1, hc2, hc3, hc4⟩ | exact ⟨K1 _ _ hc1, K1 _ _ hc2, K1 _ _ hc3, K1 _ _ hc4⟩)
            (first
              | (go_at_call 137; refine (eqPair _ _ _ _ _ _ _ _ _ _ _ _ _ _ _ _ _ _ (Nat.le_refl _) (by exact r1) (by exact r2) (by exact r3) (by exact r4)).mono ?_; rintro e w1 ⟨rfl, hb1⟩; replace hb1 := below_undrew hb1; have K1 := keeps_below hb1))
          go_wp2
          go_ret
          exact ⟨ret_b E.out.symm, (below_then hb1 hbr.size hbr).mono hB⟩
      · obtain rfl : k = n := by omega
        have E := Lib.hid (show eqPs ps qs = true from decide_eq_true (gp_ext (by rw [ha.len, hb.len]) (fun j hj => HA.out j (by rw [← ha.len]; exact hj))))
        go_wp2
        go_ret
        exact ⟨ret_b E.out.symm, hbr.mono hB⟩
  · have hnn : ((n : Int) != (m : Int)) = true := by simp; omega
    have E := Lib.hid (show eqPs ps qs = false from decide_eq_false (by rintro rfl; exact hnm (by rw [← ha.len, ← hb.len])))
    clear hnm
    go_enter Try.func63, Try.ntmps63
    go_wp2
    go_ret
    exact ⟨ret_b E.out.symm, Below.refl _ _⟩
end Go.Proofs.Ytefjhkcafcchlaa
