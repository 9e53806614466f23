/- Slices of places: sz, to, eq. -/
import Derived.Test.YtgbiceilcmhimaaPlaces
import Derived.Deep.RegionHeld3
namespace Go.Proofs.Ytgbiceilcmhimaa
open Go.RowKit

theorem szPlace (A : Option Addr) (n c : Nat) (x : Int) (l : Int) (w : World) (B : Nat) (hB : B ≤ w.heap.size) (h0 : 0 ≤ l) (h1 : l ≤ 1048576) (hn : n ≤ 9223372036854775807) :
    Calls Try.prog 79 #[.agg #[.int .i64 x, .slice A n c], .int .i64 l] w fun e w' => e = .returned (.int .i64 (szF l n)) ∧ Below B w w' := by
  by_cases ha : (n : Int) ≤ l
  · have E1 := Lib.hid (szF_yes ha)
    go_enter Try.func79, Try.ntmps79
    go_wp2_with fail
    refine (szInts _ _ _ _ _ h0 h1 hn).mono ?_; rintro e w' ⟨rfl, q, rfl⟩
    rw [E1.out]
    go_wp2
    go_ret
    exact ⟨ret_i E1.out.symm, below_drewN (below_alloc hB (Below.refl _ _)) _⟩
  · have E1 := Lib.hid (szF_no ha)
    go_enter Try.func79, Try.ntmps79
    go_wp2_with fail
    refine (szInts _ _ _ _ _ h0 h1 hn).mono ?_; rintro e w' ⟨rfl, q, rfl⟩
    rw [E1.out]
    go_wp2
    go_ret
    exact ⟨ret_i E1.out.symm, below_drewN (below_alloc hB (Below.refl _ _)) _⟩

set_option maxHeartbeats 400000 in
theorem eqPlace (A1 A2 : Option Addr) (n1 n2 c1 c2 : Nat) (y1 y2 : Int) (x1 x2 : List Int) (w : World) (B : Nat) (hB : B ≤ w.heap.size) (h1 : RI w A1 n1 c1 x1) (h2 : RI w A2 n2 c2 x2) :
    Calls Try.prog 83 #[.agg #[.int .i64 y1, .slice A1 n1 c1], .agg #[.int .i64 y2, .slice A2 n2 c2]] w fun e w' => e = .returned (.bool ((y1 == y2) && eqL x1 x2)) ∧ Below B w w' := by
  have hbw : Below w.heap.size w ((w.alloc (.cells #[.int .i64 y1, .slice A1 n1 c1] 92)).alloc (.cells #[.int .i64 y2, .slice A2 n2 c2] 92)) := below_alloc (Nat.le_refl _) (below_alloc (Nat.le_refl _) (Below.refl _ _))
  have K := keeps_below hbw
  by_cases he : y1 = y2
  · have E := Lib.hid (show ((y1 == y2) && eqL x1 x2) = eqL x1 x2 by simp [he])
    have hne : (y1 != y2) = false := by simp [he]
    clear he
    cases hq : eqL x1 x2 with
    | true =>
      go_enter Try.func83, Try.ntmps83
      go_wp2_with (go_at_call 58; refine (eqInts _ _ _ _ _ _ _ _ _ (h1.keep K) (h2.keep K)).mono ?_; rintro e w' ⟨rfl, q, rfl⟩)
      go_ret
      exact ⟨ret_b (by rw [hq] at E; exact E.out.symm), below_drewN (hbw.mono hB) _⟩
    | false =>
      go_enter Try.func83, Try.ntmps83
      go_wp2_with (go_at_call 58; refine (eqInts _ _ _ _ _ _ _ _ _ (h1.keep K) (h2.keep K)).mono ?_; rintro e w' ⟨rfl, q, rfl⟩)
      go_ret
      exact ⟨ret_b (by rw [hq] at E; exact E.out.symm), below_drewN (hbw.mono hB) _⟩
  · have E := Lib.hid (show ((y1 == y2) && eqL x1 x2) = false by simp [he])
    have hne : (y1 != y2) = true := by simp [he]
    clear he
    go_enter Try.func83, Try.ntmps83
    go_wp2
    go_ret
    exact ⟨ret_b E.out.symm, hbw.mono hB⟩

set_option maxHeartbeats 400000 in
theorem toPlace (A : Option Addr) (n c : Nat) (x : Int) (xs : List Int) (w : World) (B : Nat) (hB : B ≤ w.heap.size) (ha : RI w A n c xs) (hn : n ≤ 1048576) :
    Calls Try.prog 82 #[.agg #[.int .i64 x, .slice A n c]] w fun e w' => ∃ v, e = .returned (.agg #[.int .i64 x, v]) ∧ OI 2 w' B v xs ∧ Below B w w' := by
  go_enter Try.func82, Try.ntmps82
  go_wp2_with fail
  refine (toInts _ _ _ _ _ _ (Nat.le_refl _) (ha.keep (keeps_below (by repeat (first | exact Below.refl _ _ | refine below_alloc (Nat.le_refl _) ?_ | refine below_drewN ?_ _)))) hn).mono ?_; rintro e w1 ⟨v1, rfl, ho1, hb1⟩
  obtain ⟨A1, c1, rfl⟩ := ho1.form
  replace ho1 := ho1.more (lo' := w.heap.size + 3) (by simp)
  obtain ⟨hc, hf⟩ := bcell hb1
  have hz : w.heap.size < w1.heap.size ∧ w.heap.size + 1 < w1.heap.size ∧ w.heap.size + 1 + 1 < w1.heap.size := by have := hb1.size; simp at this; omega
  obtain ⟨hz0, hz1, hz2⟩ := hz
  go_wp2_with fail
  refine bodyPost_ret (v := .agg #[.int .i64 x, .slice A1 xs.length c1]) (by simp [results, Try.results82, go_sem, hz0, hz1, hz2, hc, hf]) rfl ⟨_, rfl, ?_, ?_⟩
  · exact ((((ho1.far (by show _ + 1 + 1 < _; omega) _).far (by show _ + 1 < _; omega) _).far (by show _ + 1 < _; omega) _)).more (by omega)
  · refine below_set (by show B ≤ _ + 1; omega) (below_set (by show B ≤ _ + 1; omega) (below_set (by show B ≤ _ + 1 + 1; omega) (below_then hb1 (by show B ≤ _; simp; omega) ?_)))
    repeat (first | exact Below.refl _ _ | refine below_alloc hB ?_)

def szQ (p : PlaceD) : Nat := p.2.length
def sumQ (ps : List PlaceD) (k : Nat) : Nat := ((ps.take k).map szQ).sum
def szQs (ps : List PlaceD) : Nat := ps.length + (ps.map szQ).sum
theorem sumQ_succ {ps : List PlaceD} {k : Nat} (h : k < ps.length) : sumQ ps (k + 1) = sumQ ps k + szQ (gq ps k) := by
  unfold sumQ
  rw [List.take_succ_eq_append_getElem h, List.map_append, List.sum_append, gq_get h]
  simp
theorem sumQ_all {ps : List PlaceD} {k : Nat} (h : ps.length = k) : szQs ps = k + sumQ ps k := by
  unfold sumQ szQs
  rw [← h, List.take_length]
theorem sumQ_mono {ps : List PlaceD} {k m : Nat} (h : k ≤ m) : sumQ ps k ≤ sumQ ps m := by
  have key : ∀ (qs : List PlaceD) (k : Nat), ((qs.take k).map szQ).sum ≤ (qs.map szQ).sum := by
    intro qs
    induction qs with
    | nil => simp
    | cons a r ih =>
      intro k
      cases k with
      | zero => simp
      | succ k => simp only [List.take_succ_cons, List.map_cons, List.sum_cons]; have := ih k; omega
  unfold sumQ
  rw [show ps.take k = (ps.take m).take k from by rw [List.take_take, Nat.min_eq_left h]]
  exact key _ _

set_option maxHeartbeats 400000 in
theorem szPlaceS (A : Option Addr) (m c : Nat) (ps : List PlaceD) (l : Int) (w : World) (B : Nat) (hB : B ≤ w.heap.size) (ha : RQS w A m c ps) (h0 : 0 ≤ l) (h1 : l ≤ 1048576) :
    Calls Try.prog 15 #[.slice A m c, .int .i64 l] w fun e w' => e = .returned (.int .i64 (szF l (szQs ps))) ∧ Below B w w' := by
  have b1 := ha.cap; have b2 := ha.top
  have hall := sumQ_all ha.len
  have HALL := Lib.hid hall
  clear hall
  by_cases hm : (m : Int) ≤ l
  · go_enter Try.func15, Try.ntmps15
    go_wp2
    go_loopw [1, 5] (fun s i wr => ∃ (k : Nat) (r : Int), k ≤ m ∧ i = .int .i64 k ∧ s = .int .i64 r ∧ 0 ≤ r ∧ r ≤ l ∧ r = l - m - sumQ ps k ∧ Below w.heap.size w wr) (fun _ i _ => m - (intOf i).toNat)
    case atStart => exact ⟨0, l - m, Nat.zero_le _, rfl, rfl, by omega, by omega, by simp [sumQ], Below.refl _ _⟩
    case round =>
      obtain ⟨k, r, hk, rfl, rfl, hr0, hr1, hr, hbr⟩ := hrel
      have HR := Lib.hid hr
      clear hr
      by_cases hlt : k < m
      · obtain ⟨b, off, A2, n2, c2, rfl, hc1, hc2, r2⟩ := (ha.keep (keeps_below hbr)).at_ hlt
        have t3 := r2.cap; have t4 := r2.top
        have hs : ((sumQ ps (k + 1) : Nat) : Int) = sumQ ps k + n2 := by
          rw [sumQ_succ (by rw [ha.len]; exact hlt)]; unfold szQ; rw [r2.len]; omega
        have HS := Lib.hid hs
        clear hs
        by_cases h2 : (n2 : Int) ≤ r
        · have E1 := Lib.hid (szF_yes h2)
          go_wp2_with fail
          refine (szPlace _ _ _ _ _ _ _ (Nat.le_refl _) hr0 (by omega) (by omega)).mono ?_; rintro e w1 ⟨rfl, hb1⟩
          rw [E1.out]
          go_wp2
          go_roundw
          case rel => exact ⟨k + 1, r - n2, by omega, by go_num, rfl, by omega, by omega, by rw [HS.out, HR.out]; omega, below_then hb1 hbr.size hbr⟩
          case measure => simp [intOf]; omega
        · have E1 := Lib.hid (szF_no h2)
          have E2 := Lib.hid (show szF l (szQs ps) = -1 from szF_no (by
            rw [HALL.out]
            have h5 := sumQ_mono (ps := ps) (show k + 1 ≤ m by omega)
            have h6 := HS.out
            have h7 := HR.out
            omega))
          go_wp2_with fail
          refine (szPlace _ _ _ _ _ _ _ (Nat.le_refl _) hr0 (by omega) (by omega)).mono ?_; rintro e w1 ⟨rfl, hb1⟩
          rw [E1.out]
          go_wp2
          go_ret
          exact ⟨ret_i E2.out.symm, (below_then hb1 hbr.size hbr).mono hB⟩
      · obtain rfl : k = m := by omega
        have E2 := Lib.hid (show szF l (szQs ps) = r from by
          rw [szF_yes (by rw [HALL.out]; have := HR.out; omega), HALL.out, HR.out]; omega)
        go_wp2
        go_ret
        exact ⟨ret_i E2.out.symm, hbr.mono hB⟩
  · have E2 := Lib.hid (show szF l (szQs ps) = -1 from szF_no (by rw [HALL.out]; omega))
    go_enter Try.func15, Try.ntmps15
    go_wp2
    go_ret
    exact ⟨ret_i E2.out.symm, Below.refl _ _⟩

def eqQs (ps qs : List PlaceD) : Bool := decide (ps = qs)
set_option maxHeartbeats 400000 in
theorem eqPlaceS (A A' : Option Addr) (n c m d : Nat) (ps qs : List PlaceD) (w : World) (B : Nat) (hB : B ≤ w.heap.size) (ha : RQS w A n c ps) (hb : RQS w A' m d qs) :
    Calls Try.prog 22 #[.slice A n c, .slice A' m d] w fun e w' => e = .returned (.bool (eqQs ps qs)) ∧ Below B w w' := by
  have b1 := ha.cap; have b2 := ha.top; have b3 := hb.cap; have b4 := hb.top
  by_cases hnm : n = m
  · subst hnm
    have hnn : ((n : Int) != (n : Int)) = false := by simp
    go_enter Try.func22, Try.ntmps22
    go_wp2
    go_loopw [5] (fun i wr => ∃ k : Nat, k ≤ n ∧ i = .int .i64 k ∧ (∀ j, j < k → gq ps j = gq qs j) ∧ Below w.heap.size w wr) (fun i _ => n - (intOf i).toNat)
    case atStart => exact ⟨0, Nat.zero_le _, rfl, by omega, Below.refl _ _⟩
    case round =>
      obtain ⟨k, hk, rfl, hall, hbr⟩ := hrel
      have HA := Lib.hid hall
      clear hall
      by_cases hlt : k < n
      · have hki : (k : Int) < (n : Int) := by omega
        have hk0 : (0 : Int) ≤ (k : Int) := by omega
        obtain ⟨b, off, A2, n2, c2, rfl, hc1, hc2, r2⟩ := (ha.keep (keeps_below hbr)).at_ hlt
        obtain ⟨b', off', A4, n4, c4, rfl, hc3, hc4, r4⟩ := (hb.keep (keeps_below hbr)).at_ hlt
        by_cases he : (((gq ps k).1 == (gq qs k).1) && eqL (gq ps k).2 (gq qs k).2) = true
        · have H := Lib.hid (show gq ps k = gq qs k by
            rw [Bool.and_eq_true] at he
            exact Prod.ext (eq_of_beq he.1) (of_decide_eq_true he.2))
          go_wp2
          go_region_held3 (fun w' => w'.cell? ⟨b, off + k * 2, none⟩ = some (.int .i64 (gq ps k).1) ∧ w'.cell? ⟨b, off + k * 2 + 1, none⟩ = some (.slice A2 n2 c2) ∧ w'.cell? ⟨b', off' + k * 2, none⟩ = some (.int .i64 (gq qs k).1) ∧ w'.cell? ⟨b', off' + k * 2 + 1, none⟩ = some (.slice A4 n4 c4)) (first | exact ⟨hc1, hc2, hc3, hc4⟩ | exact ⟨K1 _ _ hc1, K1 _ _ hc2, K1 _ _ hc3, K1 _ _ hc4⟩)
            (first
              | (go_at_call 83; refine (eqPlace _ _ _ _ _ _ _ _ _ _ _ _ (Nat.le_refl _) (by exact r2) (by exact r4)).mono ?_; rintro e w1 ⟨rfl, hb1⟩; replace hb1 := below_undrew hb1; have K1 := keeps_below hb1))
          go_wp2
          go_roundw
          case rel => exact ⟨k + 1, by omega, by go_num, all_succ HA.out H.out, below_then hb1 hbr.size hbr⟩
          case measure => simp [intOf]; omega
        · replace he : (((gq ps k).1 == (gq qs k).1) && eqL (gq ps k).2 (gq qs k).2) = false := by simpa using he
          have E := Lib.hid (show eqQs ps qs = false from decide_eq_false (by
            rintro rfl
            simp [eqL] at he))
          go_wp2
          go_region_held3 (fun w' => w'.cell? ⟨b, off + k * 2, none⟩ = some (.int .i64 (gq ps k).1) ∧ w'.cell? ⟨b, off + k * 2 + 1, none⟩ = some (.slice A2 n2 c2) ∧ w'.cell? ⟨b', off' + k * 2, none⟩ = some (.int .i64 (gq qs k).1) ∧ w'.cell? ⟨b', off' + k * 2 + 1, none⟩ = some (.slice A4 n4 c4)) (first | exact ⟨hc1, hc2, hc3, hc4⟩ | exact ⟨K1 _ _ hc1, K1 _ _ hc2, K1 _ _ hc3, K1 _ _ hc4⟩)
            (first
              | (go_at_call 83; refine (eqPlace _ _ _ _ _ _ _ _ _ _ _ _ (Nat.le_refl _) (by exact r2) (by exact r4)).mono ?_; rintro e w1 ⟨rfl, hb1⟩; replace hb1 := below_undrew hb1; have K1 := keeps_below hb1))
          go_wp2
          go_ret
          exact ⟨ret_b E.out.symm, (below_then hb1 hbr.size hbr).mono hB⟩
      · obtain rfl : k = n := by omega
        have E := Lib.hid (show eqQs ps qs = true from decide_eq_true (gq_ext (by rw [ha.len, hb.len]) (fun j hj => HA.out j (by rw [← ha.len]; exact hj))))
        go_wp2
        go_ret
        exact ⟨ret_b E.out.symm, hbr.mono hB⟩
  · have hnn : ((n : Int) != (m : Int)) = true := by simp; omega
    have E := Lib.hid (show eqQs ps qs = false from decide_eq_false (by rintro rfl; exact hnm (by rw [← ha.len, ← hb.len])))
    clear hnm
    go_enter Try.func22, Try.ntmps22
    go_wp2
    go_ret
    exact ⟨ret_b E.out.symm, Below.refl _ _⟩
end Go.Proofs.Ytgbiceilcmhimaa
