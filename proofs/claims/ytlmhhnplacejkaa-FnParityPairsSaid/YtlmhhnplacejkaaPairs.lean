/- Slices of pairs of int64 slices: how they read; contracts of the law's helpers over them. Slices of pairs: sz, to, eq. toPairS: a copy in new memory, no block shared. markPairS, heldPairS. -/
import Derived.Test.YtlmhhnplacejkaaFn4
import Derived.Test.YtlmhhnplacejkaaFn6
import Derived.Deep.RegionHeld3
import Derived.Test.YtlmhhnplacejkaaUse
namespace Go.Proofs.Ytlmhhnplacejkaa
open Go.RowKit

abbrev PairD := List Int × List Int
def gp (ps : List PairD) (i : Nat) : PairD := ps.getD i ([], [])
theorem gp_get {xs : List PairD} {i : Nat} (h : i < xs.length) : gp xs i = xs[i] := by simp [gp, h]
theorem gp_mem {xs : List PairD} {i : Nat} (h : i < xs.length) : gp xs i ∈ xs := by rw [gp_get h]; exact List.getElem_mem h
theorem mem_gp {xs : List PairD} {x : PairD} (h : x ∈ xs) : ∃ i, i < xs.length ∧ gp xs i = x := by
  obtain ⟨i, hi, rfl⟩ := List.getElem_of_mem h
  exact ⟨i, hi, gp_get hi⟩
/-- a slice of pairs that reads as a list -/
def RPS (w : World) (A : Option Addr) (n c : Nat) (ps : List PairD) : Prop :=
  ps.length = n ∧ (n ≤ c ∧ c ≤ 9223372036854775807) ∧ ∀ i, i < n → ∃ b off A1 n1 c1 A2 n2 c2, A = some ⟨b, off, none⟩ ∧
    w.cell? ⟨b, off + i * 2, none⟩ = some (.slice A1 n1 c1) ∧ w.cell? ⟨b, off + i * 2 + 1, none⟩ = some (.slice A2 n2 c2) ∧ RI w A1 n1 c1 (gp ps i).1 ∧ RI w A2 n2 c2 (gp ps i).2
section
variable {w w' : World} {A : Option Addr} {n c : Nat} {ps : List PairD}
theorem RPS.len (h : RPS w A n c ps) : ps.length = n := h.1
theorem RPS.cap (h : RPS w A n c ps) : n ≤ c := h.2.1.1
theorem RPS.top (h : RPS w A n c ps) : c ≤ 9223372036854775807 := h.2.1.2
theorem RPS.at_ (h : RPS w A n c ps) {i : Nat} (hi : i < n) : ∃ b off A1 n1 c1 A2 n2 c2, A = some ⟨b, off, none⟩ ∧
    w.cell? ⟨b, off + i * 2, none⟩ = some (.slice A1 n1 c1) ∧ w.cell? ⟨b, off + i * 2 + 1, none⟩ = some (.slice A2 n2 c2) ∧ RI w A1 n1 c1 (gp ps i).1 ∧ RI w A2 n2 c2 (gp ps i).2 := h.2.2 i hi
theorem RPS.keep (h : RPS w A n c ps) (k : Keeps w w') : RPS w' A n c ps :=
  ⟨h.1, h.2.1, fun i hi => by
    obtain ⟨b, off, A1, n1, c1, A2, n2, c2, e, hc1, hc2, h1, h2⟩ := h.2.2 i hi
    exact ⟨b, off, A1, n1, c1, A2, n2, c2, e, k _ _ hc1, k _ _ hc2, h1.keep k, h2.keep k⟩⟩
end
noncomputable def pairsB (ps : List PairD) (n : Int) : Bool := decide (ps.length ≤ 4) && ps.all (fun p => setB p.1 n && setB p.2 n)
theorem pairsB_of {ps : List PairD} {n : Int} {m : Nat} (hl : ps.length = m) (hm : m ≤ 4) (h : ∀ i, i < m → (setB (gp ps i).1 n && setB (gp ps i).2 n) = true) : pairsB ps n = true := by
  unfold pairsB
  rw [Bool.and_eq_true, List.all_eq_true]
  refine ⟨decide_eq_true (by omega), fun p hp => ?_⟩
  obtain ⟨i, hi, rfl⟩ := mem_gp hp
  exact h i (by omega)
theorem pairsB_long {ps : List PairD} {n : Int} {m : Nat} (hl : ps.length = m) (hm : ¬ m ≤ 4) : pairsB ps n = false := by
  unfold pairsB
  rw [decide_eq_false (by omega)]
  rfl
theorem pairsB_no {ps : List PairD} {n : Int} {m k : Nat} (hl : ps.length = m) (hk : k < m) (h : (setB (gp ps k).1 n && setB (gp ps k).2 n) = false) : pairsB ps n = false := by
  unfold pairsB
  rw [Bool.and_eq_false_iff]
  right
  rw [List.all_eq_false]
  exact ⟨gp ps k, gp_mem (by omega), by rw [h]; simp⟩

set_option maxHeartbeats 400000 in
theorem specPairsOk (A : Option Addr) (m c : Nat) (ps : List PairD) (n : Int) (w : World) (ha : RPS w A m c ps) :
    Calls Try.prog 16 #[.slice A m c, .int .i64 n] w fun e w' => e = .returned (.bool (inR n 0 256 && pairsB ps n)) ∧ Qt w w' := by
  have b1 := ha.cap; have b2 := ha.top
  by_cases h1 : inR n 0 256 = true
  · have E0 := Lib.hid (show (inR n 0 256 && pairsB ps n) = pairsB ps n by rw [h1]; rfl)
    by_cases h2 : m ≤ 4
    · go_enter Try.func16, Try.ntmps16
      go_wp2_with (go_at_call 70; refine (l1In _ _ _ _).mono ?_; rintro e w' ⟨rfl, q, rfl⟩)
      go_loopw [5] (fun i wr => ∃ k : Nat, k ≤ m ∧ i = .int .i64 k ∧ (∀ j, j < k → (setB (gp ps j).1 n && setB (gp ps j).2 n) = true) ∧ ∃ q, wr = w.drewN q) (fun i _ => m - (intOf i).toNat)
      case atStart => exact ⟨0, Nat.zero_le _, rfl, by omega, _, rfl⟩
      case round =>
        obtain ⟨k, hk, rfl, hall, q, rfl⟩ := hrel
        have HA := Lib.hid hall
        clear hall
        by_cases hlt : k < m
        · obtain ⟨b, off, A1, n1, c1, A2, n2, c2, rfl, hc1, hc2, r1, r2⟩ := ha.at_ hlt
          by_cases h3 : setB (gp ps k).1 n = true
          · by_cases h4 : setB (gp ps k).2 n = true
            · have H := Lib.hid (show (setB (gp ps k).1 n && setB (gp ps k).2 n) = true by rw [h3, h4]; rfl)
              go_wp2_with fail
              refine (SetOk _ _ _ _ _ _ (r1.keep (Qt.keeps ⟨_, rfl⟩))).mono ?_; rintro e w' ⟨rfl, q1, rfl⟩
              go_wp2_with fail
              refine (SetOk _ _ _ _ _ _ (r2.keep (Qt.keeps ⟨_, rfl⟩))).mono ?_; rintro e w' ⟨rfl, q2, rfl⟩
              go_wp2
              go_roundw
              case rel => exact ⟨k + 1, by omega, by go_num, all_succ HA.out H.out, _, rfl⟩
              case measure => simp [intOf]; omega
            · replace h4 : setB (gp ps k).2 n = false := by simpa using h4
              have E := Lib.hid (pairsB_no ha.len hlt (show (setB (gp ps k).1 n && setB (gp ps k).2 n) = false by rw [h3, h4]; rfl))
              go_wp2_with fail
              refine (SetOk _ _ _ _ _ _ (r1.keep (Qt.keeps ⟨_, rfl⟩))).mono ?_; rintro e w' ⟨rfl, q1, rfl⟩
              go_wp2_with fail
              refine (SetOk _ _ _ _ _ _ (r2.keep (Qt.keeps ⟨_, rfl⟩))).mono ?_; rintro e w' ⟨rfl, q2, rfl⟩
              go_wp2
              go_ret
              exact ⟨ret_b (by rw [E0.out, E.out]), _, rfl⟩
          · replace h3 : setB (gp ps k).1 n = false := by simpa using h3
            have E := Lib.hid (pairsB_no ha.len hlt (show (setB (gp ps k).1 n && setB (gp ps k).2 n) = false by rw [h3]; rfl))
            go_wp2_with fail
            refine (SetOk _ _ _ _ _ _ (r1.keep (Qt.keeps ⟨_, rfl⟩))).mono ?_; rintro e w' ⟨rfl, q1, rfl⟩
            go_wp2
            go_ret
            exact ⟨ret_b (by rw [E0.out, E.out]), _, rfl⟩
        · obtain rfl : k = m := by omega
          have E := Lib.hid (pairsB_of ha.len h2 HA.out)
          go_wp2
          go_ret
          exact ⟨ret_b (by rw [E0.out, E.out]), _, rfl⟩
    · have E := Lib.hid (pairsB_long (n := n) ha.len h2)
      go_enter Try.func16, Try.ntmps16
      go_wp2_with (go_at_call 70; refine (l1In _ _ _ _).mono ?_; rintro e w' ⟨rfl, q, rfl⟩)
      go_ret
      exact ⟨ret_b (by rw [E0.out, E.out]), _, rfl⟩
  · replace h1 : inR n 0 256 = false := by simpa using h1
    have E := Lib.hid (show (inR n 0 256 && pairsB ps n) = false by rw [h1]; rfl)
    go_enter Try.func16, Try.ntmps16
    go_wp2_with (go_at_call 70; refine (l1In _ _ _ _).mono ?_; rintro e w' ⟨rfl, q, rfl⟩)
    go_ret
    exact ⟨ret_b E.out.symm, _, rfl⟩

set_option maxHeartbeats 400000 in
theorem arePairs (A : Option Addr) (m c : Nat) (ps : List PairD) (n : Int) (w : World) (B : Nat) (hB : B ≤ w.heap.size) (ha : RPS w A m c ps) :
    Calls Try.prog 80 #[.slice A m c, .int .i64 n] w fun e w' => e = .returned (.bool (pairsB ps n)) ∧ Below B w w' := by
  have b1 := ha.cap; have b2 := ha.top
  go_enter Try.func80, Try.ntmps80
  go_wp2
  go_loopw [9] (fun i wr => ∃ k : Nat, k ≤ m ∧ i = .int .i64 k ∧ (∀ j, j < k → (setB (gp ps j).1 n && setB (gp ps j).2 n) = true) ∧ Below w.heap.size w wr) (fun i _ => m - (intOf i).toNat)
  case atStart => exact ⟨0, Nat.zero_le _, rfl, by omega, Below.refl _ _⟩
  case round =>
    obtain ⟨k, hk, rfl, hall, hbr⟩ := hrel
    have HA := Lib.hid hall
    clear hall
    by_cases hlt : k < m
    · obtain ⟨b, off, A1, n1, c1, A2, n2, c2, rfl, hc1, hc2, r1, r2⟩ := (ha.keep (keeps_below hbr)).at_ hlt
      replace r1 := r1.keep (keeps_alloc wr (.cells #[.slice A1 n1 c1, .slice A2 n2 c2] 96))
      replace r2 := r2.keep (keeps_alloc wr (.cells #[.slice A1 n1 c1, .slice A2 n2 c2] 96))
      have hba : Below w.heap.size w (wr.alloc (.cells #[.slice A1 n1 c1, .slice A2 n2 c2] 96)) := below_alloc (Nat.le_refl _) hbr
      by_cases h3 : setB (gp ps k).1 n = true
      · by_cases h4 : setB (gp ps k).2 n = true
        · have H := Lib.hid (show (setB (gp ps k).1 n && setB (gp ps k).2 n) = true by rw [h3, h4]; rfl)
          go_wp2_with fail
          refine (isSet _ _ _ _ _ _ r1).mono ?_; rintro e w' ⟨rfl, q1, rfl⟩
          go_wp2_with fail
          refine (isSet _ _ _ _ _ _ (r2.keep (Qt.keeps ⟨_, rfl⟩))).mono ?_; rintro e w' ⟨rfl, q2, rfl⟩
          go_wp2
          go_roundw
          case rel => exact ⟨k + 1, by omega, by go_num, all_succ HA.out H.out, below_drewN hba _⟩
          case measure => simp [intOf]; omega
        · replace h4 : setB (gp ps k).2 n = false := by simpa using h4
          have E := Lib.hid (pairsB_no ha.len hlt (show (setB (gp ps k).1 n && setB (gp ps k).2 n) = false by rw [h3, h4]; rfl))
          go_wp2_with fail
          refine (isSet _ _ _ _ _ _ r1).mono ?_; rintro e w' ⟨rfl, q1, rfl⟩
          go_wp2_with fail
          refine (isSet _ _ _ _ _ _ (r2.keep (Qt.keeps ⟨_, rfl⟩))).mono ?_; rintro e w' ⟨rfl, q2, rfl⟩
          go_wp2
          go_ret
          exact ⟨ret_b E.out.symm, (below_drewN hba _).mono hB⟩
      · replace h3 : setB (gp ps k).1 n = false := by simpa using h3
        have E := Lib.hid (pairsB_no ha.len hlt (show (setB (gp ps k).1 n && setB (gp ps k).2 n) = false by rw [h3]; rfl))
        go_wp2_with fail
        refine (isSet _ _ _ _ _ _ r1).mono ?_; rintro e w' ⟨rfl, q1, rfl⟩
        go_wp2
        go_ret
        exact ⟨ret_b E.out.symm, (below_drewN hba _).mono hB⟩
    · obtain rfl : k = m := by omega
      by_cases h2 : k ≤ 4
      · have E := Lib.hid (pairsB_of ha.len h2 HA.out)
        go_wp2
        go_ret
        exact ⟨ret_b (by rw [E.out]; simp; omega), hbr.mono hB⟩
      · have E := Lib.hid (pairsB_long (n := n) ha.len h2)
        go_wp2
        go_ret
        exact ⟨ret_b (by rw [E.out]; simp; omega), hbr.mono hB⟩

end Go.Proofs.Ytlmhhnplacejkaa
namespace Go.Proofs.Ytlmhhnplacejkaa
open Go.RowKit

def szP (p : PairD) : Nat := p.1.length + p.2.length
def sumP (ps : List PairD) (k : Nat) : Nat := ((ps.take k).map szP).sum
def szPs (ps : List PairD) : Nat := ps.length + (ps.map szP).sum
theorem sumP_succ {ps : List PairD} {k : Nat} (h : k < ps.length) : sumP ps (k + 1) = sumP ps k + szP (gp ps k) := by
  unfold sumP
  rw [List.take_succ_eq_append_getElem h, List.map_append, List.sum_append, gp_get h]
  simp
theorem sumP_all {ps : List PairD} {k : Nat} (h : ps.length = k) : szPs ps = k + sumP ps k := by
  unfold sumP szPs
  rw [← h, List.take_length]
theorem sumP_mono {ps : List PairD} {k m : Nat} (h : k ≤ m) : sumP ps k ≤ sumP ps m := by
  have key : ∀ (qs : List PairD) (k : Nat), ((qs.take k).map szP).sum ≤ (qs.map szP).sum := by
    intro qs
    induction qs with
    | nil => simp
    | cons a r ih =>
      intro k
      cases k with
      | zero => simp
      | succ k => simp only [List.take_succ_cons, List.map_cons, List.sum_cons]; have := ih k; omega
  unfold sumP
  rw [show ps.take k = (ps.take m).take k from by rw [List.take_take, Nat.min_eq_left h]]
  exact key _ _

set_option maxHeartbeats 400000 in
theorem szPairS (A : Option Addr) (m c : Nat) (ps : List PairD) (l : Int) (w : World) (B : Nat) (hB : B ≤ w.heap.size) (ha : RPS w A m c ps) (h0 : 0 ≤ l) (h1 : l ≤ 1048576) :
    Calls Try.prog 55 #[.slice A m c, .int .i64 l] w fun e w' => e = .returned (.int .i64 (szF l (szPs ps))) ∧ Below B w w' := by
  have b1 := ha.cap; have b2 := ha.top
  have hall := sumP_all ha.len
  have HALL := Lib.hid hall
  clear hall
  by_cases hm : (m : Int) ≤ l
  · go_enter Try.func55, Try.ntmps55
    go_wp2
    go_loopw [1, 5] (fun s i wr => ∃ (k : Nat) (r : Int), k ≤ m ∧ i = .int .i64 k ∧ s = .int .i64 r ∧ 0 ≤ r ∧ r ≤ l ∧ r = l - m - sumP ps k ∧ Below w.heap.size w wr) (fun _ i _ => m - (intOf i).toNat)
    case atStart => exact ⟨0, l - m, Nat.zero_le _, rfl, rfl, by omega, by omega, by simp [sumP], Below.refl _ _⟩
    case round =>
      obtain ⟨k, r, hk, rfl, rfl, hr0, hr1, hr, hbr⟩ := hrel
      have HR := Lib.hid hr
      clear hr
      by_cases hlt : k < m
      · obtain ⟨b, off, A1, n1, c1, A2, n2, c2, rfl, hc1, hc2, r1, r2⟩ := (ha.keep (keeps_below hbr)).at_ hlt
        have t1 := r1.cap; have t2 := r1.top; have t3 := r2.cap; have t4 := r2.top
        have hs : ((sumP ps (k + 1) : Nat) : Int) = sumP ps k + (n1 + n2) := by
          rw [sumP_succ (by rw [ha.len]; exact hlt)]; unfold szP; rw [r1.len, r2.len]; omega
        have HS := Lib.hid hs
        clear hs
        by_cases h2 : (n1 : Int) + n2 ≤ r
        · have E1 := Lib.hid (szF_yes h2)
          go_wp2_with fail
          refine (szPair _ _ _ _ _ _ _ _ _ (Nat.le_refl _) hr0 (by omega) (by omega) (by omega)).mono ?_; rintro e w1 ⟨rfl, hb1⟩
          rw [E1.out]
          go_wp2
          go_roundw
          case rel => exact ⟨k + 1, r - (n1 + n2), by omega, by go_num, rfl, by omega, by omega, by rw [HS.out, HR.out]; omega, below_then hb1 hbr.size hbr⟩
          case measure => simp [intOf]; omega
        · have E1 := Lib.hid (szF_no h2)
          have E2 := Lib.hid (show szF l (szPs ps) = -1 from szF_no (by
            rw [HALL.out]
            have h5 := sumP_mono (ps := ps) (show k + 1 ≤ m by omega)
            have h6 := HS.out
            have h7 := HR.out
            omega))
          go_wp2_with fail
          refine (szPair _ _ _ _ _ _ _ _ _ (Nat.le_refl _) hr0 (by omega) (by omega) (by omega)).mono ?_; rintro e w1 ⟨rfl, hb1⟩
          rw [E1.out]
          go_wp2
          go_ret
          exact ⟨ret_i E2.out.symm, (below_then hb1 hbr.size hbr).mono hB⟩
      · obtain rfl : k = m := by omega
        have E2 := Lib.hid (show szF l (szPs ps) = r from by
          rw [szF_yes (by rw [HALL.out]; have := HR.out; omega), HALL.out, HR.out]; omega)
        go_wp2
        go_ret
        exact ⟨ret_i E2.out.symm, hbr.mono hB⟩
  · have E2 := Lib.hid (show szF l (szPs ps) = -1 from szF_no (by rw [HALL.out]; omega))
    go_enter Try.func55, Try.ntmps55
    go_wp2
    go_ret
    exact ⟨ret_i E2.out.symm, Below.refl _ _⟩

def eqPs (ps qs : List PairD) : Bool := decide (ps = qs)
theorem gp_ext {xs ys : List PairD} (hl : xs.length = ys.length) (h : ∀ j, j < xs.length → gp xs j = gp ys j) : xs = ys := by
  refine List.ext_getElem hl fun i a b => ?_
  have := h i a
  rwa [gp_get a, gp_get b] at this

set_option maxHeartbeats 400000 in
theorem eqPairS (A A' : Option Addr) (n c m d : Nat) (ps qs : List PairD) (w : World) (B : Nat) (hB : B ≤ w.heap.size) (ha : RPS w A n c ps) (hb : RPS w A' m d qs) :
    Calls Try.prog 61 #[.slice A n c, .slice A' m d] w fun e w' => e = .returned (.bool (eqPs ps qs)) ∧ Below B w w' := by
  have b1 := ha.cap; have b2 := ha.top; have b3 := hb.cap; have b4 := hb.top
  by_cases hnm : n = m
  · subst hnm
    have hnn : ((n : Int) != (n : Int)) = false := by simp
    go_enter Try.func61, Try.ntmps61
    go_wp2
    go_loopw [5] (fun i wr => ∃ k : Nat, k ≤ n ∧ i = .int .i64 k ∧ (∀ j, j < k → gp ps j = gp qs j) ∧ Below w.heap.size w wr) (fun i _ => n - (intOf i).toNat)
    case atStart => exact ⟨0, Nat.zero_le _, rfl, by omega, Below.refl _ _⟩
    case round =>
      obtain ⟨k, hk, rfl, hall, hbr⟩ := hrel
      have HA := Lib.hid hall
      clear hall
      by_cases hlt : k < n
      · have hki : (k : Int) < (n : Int) := by omega
        have hk0 : (0 : Int) ≤ (k : Int) := by omega
        obtain ⟨b, off, A1, n1, c1, A2, n2, c2, rfl, hc1, hc2, r1, r2⟩ := (ha.keep (keeps_below hbr)).at_ hlt
        obtain ⟨b', off', A3, n3, c3, A4, n4, c4, rfl, hc3, hc4, r3, r4⟩ := (hb.keep (keeps_below hbr)).at_ hlt
        by_cases he : (eqL (gp ps k).1 (gp qs k).1 && eqL (gp ps k).2 (gp qs k).2) = true
        · have H := Lib.hid (show gp ps k = gp qs k by
            rw [Bool.and_eq_true] at he
            exact Prod.ext (of_decide_eq_true he.1) (of_decide_eq_true he.2))
          go_wp2
          go_region_held3 (fun w' => w'.cell? ⟨b, off + k * 2, none⟩ = some (.slice A1 n1 c1) ∧ w'.cell? ⟨b, off + k * 2 + 1, none⟩ = some (.slice A2 n2 c2) ∧ w'.cell? ⟨b', off' + k * 2, none⟩ = some (.slice A3 n3 c3) ∧ w'.cell? ⟨b', off' + k * 2 + 1, none⟩ = some (.slice A4 n4 c4)) (first | exact ⟨hc1, hc2, hc3, hc4⟩ | exact ⟨K1 _ _ hc1, K1 _ _ hc2, K1 _ _ hc3, K1 _ _ hc4⟩)
            (first
              | (go_at_call 136; refine (eqPair _ _ _ _ _ _ _ _ _ _ _ _ _ _ _ _ _ _ (Nat.le_refl _) (by exact r1) (by exact r2) (by exact r3) (by exact r4)).mono ?_; rintro e w1 ⟨rfl, hb1⟩; replace hb1 := below_undrew hb1; have K1 := keeps_below hb1))
          go_wp2
          go_roundw
          case rel => exact ⟨k + 1, by omega, by go_num, all_succ HA.out H.out, below_then hb1 hbr.size hbr⟩
          case measure => simp [intOf]; omega
        · replace he : (eqL (gp ps k).1 (gp qs k).1 && eqL (gp ps k).2 (gp qs k).2) = false := by simpa using he
          have E := Lib.hid (show eqPs ps qs = false from decide_eq_false (by
            rintro rfl
            simp [eqL] at he))
          go_wp2
          go_region_held3 (fun w' => w'.cell? ⟨b, off + k * 2, none⟩ = some (.slice A1 n1 c1) ∧ w'.cell? ⟨b, off + k * 2 + 1, none⟩ = some (.slice A2 n2 c2) ∧ w'.cell? ⟨b', off' + k * 2, none⟩ = some (.slice A3 n3 c3) ∧ w'.cell? ⟨b', off' + k * 2 + 1, none⟩ = some (.slice A4 n4 c4)) (first | exact ⟨hc1, hc2, hc3, hc4⟩ | exact ⟨K1 _ _ hc1, K1 _ _ hc2, K1 _ _ hc3, K1 _ _ hc4⟩)
            (first
              | (go_at_call 136; refine (eqPair _ _ _ _ _ _ _ _ _ _ _ _ _ _ _ _ _ _ (Nat.le_refl _) (by exact r1) (by exact r2) (by exact r3) (by exact r4)).mono ?_; rintro e w1 ⟨rfl, hb1⟩; replace hb1 := below_undrew hb1; have K1 := keeps_below hb1))
          go_wp2
          go_ret
          exact ⟨ret_b E.out.symm, (below_then hb1 hbr.size hbr).mono hB⟩
      · obtain rfl : k = n := by omega
        have E := Lib.hid (show eqPs ps qs = true from decide_eq_true (gp_ext (by rw [ha.len, hb.len]) (fun j hj => HA.out j (by rw [← ha.len]; exact hj))))
        go_wp2
        go_ret
        exact ⟨ret_b E.out.symm, hbr.mono hB⟩
  · have hnn : ((n : Int) != (m : Int)) = true := by simp; omega
    have E := Lib.hid (show eqPs ps qs = false from decide_eq_false (by rintro rfl; exact hnm (by rw [← ha.len, ← hb.len])))
    clear hnm
    go_enter Try.func61, Try.ntmps61
    go_wp2
    go_ret
    exact ⟨ret_b E.out.symm, Below.refl _ _⟩
end Go.Proofs.Ytlmhhnplacejkaa
namespace Go.Proofs.Ytlmhhnplacejkaa
open Go.RowKit

/-- the j-th slice of a list of pairs laid flat -/
def fl (ps : List PairD) (j : Nat) : List Int := if j % 2 = 0 then (gp ps (j / 2)).1 else (gp ps (j / 2)).2
theorem fl_even (ps : List PairD) (k : Nat) : fl ps (k * 2) = (gp ps k).1 := by unfold fl; rw [if_pos (by omega), show k * 2 / 2 = k from by omega]
theorem fl_odd (ps : List PairD) (k : Nat) : fl ps (k * 2 + 1) = (gp ps k).2 := by unfold fl; rw [if_neg (by omega), show (k * 2 + 1) / 2 = k from by omega]
/-- a slice of pairs of the call's own: the row, and the rows in it, none shared -/
def OPS (w : World) (lo : Nat) (v : Value) (ps : List PairD) : Prop :=
  ∃ cs, w.ownsRow lo 96 2 v ps.length cs ∧ OL 2 w lo cs (fl ps) ∧ Dis cs
theorem OPS.below {w w' : World} {lo : Nat} {v : Value} {ps : List PairD} (h : OPS w lo v ps) (hb : Below w.heap.size w w') : OPS w' lo v ps := by
  obtain ⟨cs, h1, h2, h3⟩ := h
  exact ⟨cs, row_below h1 hb, h2.below hb, h3⟩
theorem OPS.form {w : World} {lo : Nat} {v : Value} {ps : List PairD} (h : OPS w lo v ps) : ∃ A c, v = .slice A ps.length c := by
  obtain ⟨cs, h1, _⟩ := h
  obtain ⟨A, c, h2, _⟩ := row_form h1
  exact ⟨A, c, h2⟩
theorem OPS.reads {w : World} {lo n c : Nat} {A : Option Addr} {ps : List PairD} (h : OPS w lo (.slice A n c) ps) : RPS w A n c ps := by
  obtain ⟨cs, h1, h2, _⟩ := h
  obtain ⟨A', c', e, hc1, hc2, hg⟩ := row_form h1
  injection e with e1 e2 e3
  subst e1; subst e2; subst e3
  refine ⟨rfl, ⟨hc1, hc2⟩, fun i hi => ?_⟩
  obtain ⟨g, rfl⟩ := hg (by omega)
  have hl := row_len h1
  have o1 := h2 (i * 2) (by omega)
  have o2 := h2 (i * 2 + 1) (by omega)
  have k1 := row_cell h1 (j := i * 2) (by omega)
  have k2 := row_cell h1 (j := i * 2 + 1) (by omega)
  rw [fl_even] at o1
  rw [fl_odd] at o2
  obtain ⟨A1, c1, e1⟩ := o1.form
  obtain ⟨A2, c2, e2⟩ := o2.form
  rw [e1] at o1 k1
  rw [e2] at o2 k2
  exact ⟨g, 0, A1, _, c1, A2, _, c2, rfl, by simpa using k1, by simpa using k2, o1.reads, o2.reads⟩

theorem infoPair : (Try.prog.info? 96).map (fun i => (i.zero, i.size, i.bytes)) = some (some (.agg #[.slice none 0 0, .slice none 0 0]), 2, 48) := by kernel_rfl
theorem made_two (n : Nat) : (madeCells (Value.agg #[.slice none 0 0, .slice none 0 0]).cells (n * 2)).toList = List.replicate (n * 2) (.slice none 0 0) := by
  refine List.ext_getElem (by simp [madeCells]) fun i h1 h2 => ?_
  simp only [madeCells, Value.cells, Array.toList_map, List.getElem_map, Array.getElem_toList, Array.getElem_range, List.getElem_replicate]
  have : i % 2 = 0 ∨ i % 2 = 1 := by omega
  rcases this with h | h <;> simp [h]

set_option maxHeartbeats 800000 in
theorem toPairS (A : Option Addr) (n c : Nat) (ps : List PairD) (w : World) (B : Nat) (hB : B ≤ w.heap.size) (ha : RPS w A n c ps) (hn : szPs ps ≤ 1048576) :
    Calls Try.prog 58 #[.slice A n c] w fun e w' => ∃ v, e = .returned v ∧ OPS w' B v ps ∧ Below B w w' := by
  have b1 := ha.cap; have b2 := ha.top
  have hall := sumP_all ha.len
  have hn' : n ≤ 1048576 := by omega
  have hsz : ∀ k, k < n → szP (gp ps k) ≤ 1048576 := fun k hk => by
    have h5 := sumP_mono (ps := ps) (show k + 1 ≤ n by omega)
    rw [sumP_succ (by rw [ha.len]; exact hk)] at h5
    omega
  have HSZ := Lib.hid hsz
  clear hsz hall
  obtain ⟨ib, hi, hz0, hz1, hz2⟩ := info_parts infoPair
  go_enter Try.func58, Try.ntmps58
  go_wp2_with (refine wpList_make_full _ rfl (.tmp 6) (.tmp 6) 35 rfl w.heap.size 96 ib (.agg #[.slice none 0 0, .slice none 0 0]) 2 Try.underlying35 hi hz0 hz1 .i64 .i64 _ _ n rfl rfl rfl rfl (by rw [hz2]; omega) (by unfold maxLen; omega) (Nat.le_refl _) ?_; intro w1 hown hgrow)
  rw [made_two] at hown
  have hbel : Below w.heap.size w w1 := (Below.refl _ _).grown hgrow (Nat.le_refl _) (by simp)
  have hlt1 : w.heap.size + 1 ≤ w1.heap.size := by
    have := World.ownsRow.lt hown w.heap.size rfl
    omega
  have HG := Lib.hid hgrow
  clear hgrow
  go_loopw [4] (fun i wr => ∃ j : Nat, j ≤ n ∧ i = .int .i64 j ∧ Below w.heap.size w wr ∧ w.heap.size + 1 ≤ wr.heap.size ∧
      ∃ cs, wr.ownsRow w.heap.size 96 2 (.slice (some ⟨w.heap.size, 0, none⟩) n n) n cs ∧ OL 2 wr (w.heap.size + 1) cs (fun i => if i < j * 2 then fl ps i else []) ∧ Dis cs) (fun i _ => n - (intOf i).toNat)
  case atStart => exact ⟨0, Nat.zero_le _, rfl, hbel, hlt1, _, hown, (OL.nil rfl).congr (fun i _ => by simp), Dis.nil⟩
  case round =>
    obtain ⟨j, hj, rfl, hb, hsz1, cs, hrow, hol, hdis⟩ := hrel
    have HR := Lib.hid hrow
    have HO := Lib.hid hol
    have HD := Lib.hid hdis
    clear hrow hol hdis hown
    by_cases hlt : j < n
    · obtain ⟨b, off, A1, n1, c1, A2, n2, c2, rfl, hc1, hc2, r1, r2⟩ := (ha.keep (keeps_below hb)).at_ hlt
      have hsz := HSZ.out j hlt
      unfold szP at hsz
      rw [r1.len, r2.len] at hsz
      go_wp2_with fail
      refine (toPair _ _ _ _ _ _ _ _ _ _ (Nat.le_refl _) r1 r2 (by omega) (by omega)).mono ?_; rintro e w2 ⟨v, u, rfl, hv, hu, hap, hb2⟩
      obtain ⟨A3, c3, rfl⟩ := hv.form
      obtain ⟨A4, c4, rfl⟩ := hu.form
      have hr2 := row_below HR.out hb2
      have ho2 := HO.out.below hb2
      have hl := row_len HR.out
      have HL := Lib.hid hl
      clear hl
      have k1 := row_cell hr2 (j := j * 2) (by omega)
      have k2 := row_cell hr2 (j := j * 2 + 1) (by omega)
      have f1 := World.ownsRow.frozenAt hr2 (j * 2)
      have f2 := World.ownsRow.frozenAt hr2 (j * 2 + 1)
      have hs1 := (World.ownsRow.stored hr2 (j * 2) (.slice A3 (gp ps j).1.length c3)).1
      have hs2 := (World.ownsRow.stored hs1 (j * 2 + 1) (.slice A4 (gp ps j).2.length c4)).1
      have hx := apart_new HO.out hv (Nat.le_refl _)
      have hy := apart_new HO.out hu (Nat.le_refl _)
      have hv' := ((hv.more (lo' := w.heap.size + 1) hsz1).far (p := ⟨w.heap.size, j * 2, none⟩) (by show w.heap.size < _; omega) (.slice A3 (gp ps j).1.length c3)).far (p := ⟨w.heap.size, j * 2 + 1, none⟩) (by show w.heap.size < _; omega) (.slice A4 (gp ps j).2.length c4)
      have hu' := ((hu.more (lo' := w.heap.size + 1) hsz1).far (p := ⟨w.heap.size, j * 2, none⟩) (by show w.heap.size < _; omega) (.slice A3 (gp ps j).1.length c3)).far (p := ⟨w.heap.size, j * 2 + 1, none⟩) (by show w.heap.size < _; omega) (.slice A4 (gp ps j).2.length c4)
      have ho' := (ho2.far (p := ⟨w.heap.size, j * 2, none⟩) (by show w.heap.size < _; omega) (.slice A3 (gp ps j).1.length c3)).far (p := ⟨w.heap.size, j * 2 + 1, none⟩) (by show w.heap.size < _; omega) (.slice A4 (gp ps j).2.length c4)
      have ho3 := (ho'.set_ (k := j * 2) (by rw [HL.out]; omega) hv').set_ (k := j * 2 + 1) (by rw [List.length_set, HL.out]; omega) hu'
      have hd3 : Dis ((cs.set (j * 2) (.slice A3 (gp ps j).1.length c3)).set (j * 2 + 1) (.slice A4 (gp ps j).2.length c4)) := by
        refine (HD.out.set_ (by rw [HL.out]; omega) (fun i hi _ => hx i hi)).set_ (by rw [List.length_set, HL.out]; omega) (fun i hi hne => ?_)
        rw [List.length_set] at hi
        rw [gv_set (by rw [HL.out]; omega)]
        by_cases e : j * 2 = i
        · rw [if_pos e]; exact hap
        · rw [if_neg e]; exact hy i hi
      have HO3 := Lib.hid ho3
      have HR3 := Lib.hid hs2
      have HD3 := Lib.hid hd3
      clear ho3 ho' hu' hv' hs1 hs2 hd3 hx hy
      go_wp2
      go_roundw
      case rel =>
        refine ⟨j + 1, by omega, by go_num, below_set (Nat.le_refl _) (below_set (Nat.le_refl _) (below_then hb2 hb.size hb)), by have := hb2.size; simp; omega, _, HR3.out, HO3.out.congr (fun i hi => ?_), HD3.out⟩
        simp only [List.length_set, HL.out] at hi
        by_cases e1 : j * 2 + 1 = i
        · subst e1
          rw [if_pos rfl, if_pos (by omega), fl_odd]
        · rw [if_neg e1]
          by_cases e2 : j * 2 = i
          · subst e2
            rw [if_pos rfl, if_pos (by omega), fl_even]
          · rw [if_neg e2]
            by_cases e3 : i < j * 2
            · rw [if_pos e3, if_pos (by omega)]
            · rw [if_neg e3, if_neg (by omega)]
      case measure => simp [intOf]; omega
    · obtain rfl : j = n := by omega
      go_wp2
      go_ret
      refine ⟨_, rfl, ⟨cs, ?_, (HO.out.congr (fun i hi => ?_)).more (by omega), HD.out⟩, hb.mono hB⟩
      · rw [ha.len]; exact row_more HR.out hB
      · rw [row_len HR.out] at hi; rw [if_pos hi]
end Go.Proofs.Ytlmhhnplacejkaa
namespace Go.Proofs.Ytlmhhnplacejkaa
open Go.RowKit

theorem eqPs_self (ps : List PairD) : eqPs ps ps = true := by simp [eqPs]
/-- a row of rows, those ahead of m turned from G to F: one more is turned -/
theorem OL.turn {E : TypeId} {w w2 : World} {lo m : Nat} {cs : List Value} {F G : Nat → List Int} {u : Value} (h : OL E w lo cs (fun i => if i < m then F i else G i)) (hd : Dis cs) (hm : m < cs.length) (hu : gv cs m = u) (hn : OI E w2 lo u (F m)) (hg : w.grownBy w2 u.ownBlock) :
    OL E w2 lo cs (fun i => if i < m + 1 then F i else G i) := by
  intro i hi
  by_cases e : i = m
  · subst e
    dsimp only
    rw [if_pos (by omega), hu]
    exact hn
  · have hap := hd i m hi hm e
    rw [hu] at hap
    have := (h i hi).chg (Chg.of_grown hg) (fun b hb hs => apart_not hap hb hs)
    dsimp only at this ⊢
    by_cases h3 : i < m
    · rw [if_pos h3] at this; rw [if_pos (by omega)]; exact this
    · rw [if_neg h3] at this; rw [if_neg (by omega)]; exact this
theorem OL.turned {E : TypeId} {w : World} {lo m : Nat} {cs : List Value} {F G : Nat → List Int} (h : OL E w lo cs (fun i => if i < m then F i else G i)) (hm : cs.length ≤ m) : OL E w lo cs F := h.congr fun i hi => by rw [if_pos (by omega)]
theorem OL.turn0 {E : TypeId} {w : World} {lo : Nat} {cs : List Value} {F G : Nat → List Int} (h : OL E w lo cs G) : OL E w lo cs (fun i => if i < 0 then F i else G i) := h.congr fun i _ => by simp
/-- the row at m, as it stands -/
theorem OL.next {E : TypeId} {w : World} {lo m : Nat} {cs : List Value} {F G : Nat → List Int} (h : OL E w lo cs (fun i => if i < m then F i else G i)) (hm : m < cs.length) : OI E w lo (gv cs m) (G m) := by
  have := h m hm
  simpa using this

def totP (ps : List PairD) : Nat := (ps.map szP).sum
theorem totP_sum (ps : List PairD) (k : Nat) : totP (ps.take k) = sumP ps k := rfl
def mkP : Int → List PairD → List PairD
  | _, [] => []
  | k, p :: r => (upto k p.1.length, upto (k + p.1.length) p.2.length) :: mkP (k + p.1.length + p.2.length) r
theorem mkP_len : ∀ (xs : List PairD) (k : Int), (mkP k xs).length = xs.length
  | [], _ => rfl
  | x :: r, k => by simp [mkP, mkP_len r]
theorem mkP_at : ∀ (xs : List PairD) (k : Int) (i : Nat), i < xs.length → gp (mkP k xs) i = (upto (k + sumP xs i) (gp xs i).1.length, upto (k + sumP xs i + (gp xs i).1.length) (gp xs i).2.length)
  | [], _, i, h => absurd h (by simp)
  | x :: r, k, 0, _ => by simp [mkP, gp, sumP]
  | x :: r, k, i + 1, h => by
    have h' : i < r.length := by simpa using h
    have := mkP_at r (k + x.1.length + x.2.length) i h'
    simp only [mkP, gp, List.getD_cons_succ] at this ⊢
    rw [this]
    have e : (k + x.1.length + x.2.length + (sumP r i : Nat) : Int) = k + (sumP (x :: r) (i + 1) : Nat) := by
      simp only [sumP, List.take_succ_cons, List.map_cons, List.sum_cons, szP]
      omega
    rw [e]
theorem sumP_le (ps : List PairD) (k : Nat) : sumP ps k ≤ totP ps := by
  unfold sumP totP
  conv => rhs; rw [← List.take_append_drop k ps]
  rw [List.map_append, List.sum_append]
  omega
theorem sumP_len {ps : List PairD} {k : Nat} (h : ps.length = k) : sumP ps k = totP ps := by
  unfold sumP totP
  rw [List.take_of_length_le (by omega)]
theorem totP_sz (ps : List PairD) : totP ps ≤ szPs ps := by unfold totP szPs; omega

theorem OPS.hold {lo : Nat} {v : Value} {ps : List PairD} {wb w : World} (h : OPS wb lo v ps) (f : Far lo wb w) : OPS w lo v ps := by
  obtain ⟨cs, h1, h2, h3⟩ := h
  exact ⟨cs, row_hold h1 f, h2.hold f, h3⟩
theorem OPS.more {w : World} {lo lo' : Nat} {v : Value} {ps : List PairD} (h : OPS w lo v ps) (hl : lo' ≤ lo) : OPS w lo' v ps := by
  obtain ⟨cs, h1, h2, h3⟩ := h
  exact ⟨cs, row_more h1 hl, h2.more hl, h3⟩

set_option maxRecDepth 100000 in
set_option maxHeartbeats 800000 in
theorem markPairSU (A : Option Addr) (n c : Nat) (ps : List PairD) (k : Int) (w : World) (lo : Nat) (wb : World) (hlo : lo ≤ wb.heap.size) (ho : OPS wb lo (.slice A n c) ps) (hb : Far lo wb w) (hk0 : 0 ≤ k) (hk1 : k + totP ps ≤ 4611686018427387904) :
    Calls Try.prog 63 #[.slice A n c, .int .i64 k] w fun e w' => e = .returned (.int .i64 (k + totP ps)) ∧ OPS w' lo (.slice A n c) (mkP k ps) ∧ Chg (fun b => lo ≤ b ∧ b < wb.heap.size) w w' := by
  obtain ⟨cs, r0, l0, hd⟩ := ho
  have lt0 : ∀ i, i < cs.length → ∀ b, (gv cs i).ownBlock = some b → lo ≤ b ∧ b < wb.heap.size := fun i hi b hbb => (l0 i hi).lt b hbb
  have r1 := row_hold r0 hb
  have l1 := (l0.hold hb).turn0 (F := fl (mkP k ps))
  clear r0 l0
  have hlen := row_len r1
  obtain ⟨A0, c0, e0, q1, q2, hg⟩ := row_form r1
  injection e0 with e1 e2 e3
  subst e1; subst e3
  have HL := Lib.hid e2.symm
  rw [← e2] at r1 hlen hg q1
  clear e2
  have HLEN := Lib.hid hlen
  have HD := Lib.hid hd
  have HT := Lib.hid lt0
  have HR1 := Lib.hid r1
  have HL1 := Lib.hid l1
  clear hlen hd lt0 r1 l1
  have htl := sumP_le ps
  go_enter Try.func63, Try.ntmps63
  go_wp2
  go_loopw [1, 5] (fun s i wr => ∃ (j : Nat) (r : Int), j ≤ n ∧ i = .int .i64 j ∧ s = .int .i64 r ∧ 0 ≤ r ∧ r = k + sumP ps j ∧
      wr.ownsRow lo 96 2 (.slice A n c) n cs ∧ OL 2 wr lo cs (fun i => if i < j * 2 then fl (mkP k ps) i else fl ps i) ∧ Chg (fun b => lo ≤ b ∧ b < wb.heap.size) w wr) (fun _ i _ => n - (intOf i).toNat)
  case atStart => exact ⟨0, k, Nat.zero_le _, rfl, rfl, hk0, by simp [sumP], HR1.out, HL1.out, Chg.refl _ _⟩
  case round =>
    obtain ⟨j, r, hj, rfl, rfl, hr0, hr2, hrow, hol, hch⟩ := hrel
    have HR := Lib.hid hr2
    have HW := Lib.hid hrow
    have HO := Lib.hid hol
    have HC := Lib.hid hch
    clear hr2 hrow hol hch
    by_cases hlt : j < n
    · obtain ⟨g, rfl⟩ := hg (by omega)
      have m1 : j * 2 < cs.length := by rw [HLEN.out]; omega
      have m2 : j * 2 + 1 < cs.length := by rw [HLEN.out]; omega
      have o1 := HO.out.next m1
      rw [fl_even] at o1
      obtain ⟨A1, c1, e1⟩ := o1.form
      have k1 := row_cell HW.out (j := j * 2) (by omega)
      have k2 := row_cell HW.out (j := j * 2 + 1) (by omega)
      have w1 := own_ne o1 HW.out (by decide)
      rw [e1] at o1 k1 w1
      have E1 := Lib.hid e1
      clear e1
      have hsum : sumP ps (j + 1) = sumP ps j + szP (gp ps j) := sumP_succ (by rw [HL.out]; exact hlt)
      have hle := htl (j + 1)
      have hat := mkP_at ps k j (by rw [HL.out]; exact hlt)
      rw [← HR.out] at hat
      have F1 : fl (mkP k ps) (j * 2) = upto r (gp ps j).1.length := by rw [fl_even, hat]
      have F2 : fl (mkP k ps) (j * 2 + 1) = upto (r + (gp ps j).1.length) (gp ps j).2.length := by rw [fl_odd, hat]
      unfold szP at hsum
      have hkk1 : r + (gp ps j).1.length ≤ 4611686018427387904 := by have := HR.out; omega
      have hkk2 : r + (gp ps j).1.length + (gp ps j).2.length ≤ 4611686018427387904 := by have := HR.out; omega
      have hpos : 0 ≤ r + (gp ps j).1.length := by omega
      have HF1 := Lib.hid F1
      have HF2 := Lib.hid F2
      have HS := Lib.hid hsum
      have hgw : (⟨g, j * 2, none⟩ : Addr).block = g := rfl
      clear hat hsum hle F1 F2 hgw
      go_wp2_with fail
      refine (markInts _ _ _ _ _ _ _ o1 hr0 hkk1).mono ?_; rintro e w2 ⟨rfl, ho2, hg2⟩
      have hc2 := Chg.of_grown hg2
      have hrow2 := row_chg HW.out hc2 (fun b hb hs => w1 b hs hb)
      have hol2 := HO.out.turn HD.out m1 E1.out (by rw [HF1.out]; exact ho2) hg2
      have o2 := hol2.next m2
      rw [fl_odd] at o2
      obtain ⟨A2, c2, e2⟩ := o2.form
      have k2' := row_cell hrow2 (j := j * 2 + 1) (by omega)
      have w2' := own_ne o2 hrow2 (by decide)
      rw [e2] at o2 k2' w2'
      have E2 := Lib.hid e2
      have HO2 := Lib.hid hol2
      have HW2 := Lib.hid hrow2
      have HC2 := Lib.hid (HC.out.trans hc2 (fun _ h => h) (fun b hb => by
        have := HT.out (j * 2) m1 b
        rw [E1.out] at this
        exact this hb))
      clear e2 hol2 hrow2 hc2 k1 k2 w1 ho2 hg2
      go_wp2_with fail
      refine (markInts _ _ _ _ _ _ _ o2 hpos hkk2).mono ?_; rintro e w3 ⟨rfl, ho3, hg3⟩
      have hc3 := Chg.of_grown hg3
      have HW3 := Lib.hid (row_chg HW2.out hc3 (fun b hb hs => w2' b hs hb))
      have HO3 := Lib.hid (HO2.out.turn HD.out m2 E2.out (by rw [HF2.out]; exact ho3) hg3)
      have HC3 := Lib.hid (HC2.out.trans hc3 (fun _ h => h) (fun b hb => by
        have := HT.out (j * 2 + 1) m2 b
        rw [E2.out] at this
        exact this hb))
      clear hc3 ho3 hg3 k2' w2'
      go_wp2
      go_roundw
      case rel => exact ⟨j + 1, r + (gp ps j).1.length + (gp ps j).2.length, by omega, by go_num, rfl, by omega, by rw [HS.out, HR.out]; omega, HW3.out, by rw [show (j + 1) * 2 = j * 2 + 1 + 1 from by omega]; exact HO3.out, HC3.out⟩
      case measure => simp [intOf]; omega
    · obtain rfl : j = n := by omega
      go_wp2
      go_ret
      refine ⟨ret_i (by rw [HR.out, sumP_len HL.out]), ⟨cs, by rw [mkP_len, HL.out]; exact HW.out, HO.out.turned (by rw [HLEN.out]; omega), HD.out⟩, HC.out⟩

end Go.Proofs.Ytlmhhnplacejkaa
