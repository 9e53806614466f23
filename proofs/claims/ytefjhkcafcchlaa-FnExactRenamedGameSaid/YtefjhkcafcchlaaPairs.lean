/- Slices of pairs of int64 slices: how they read; contracts of the law's helpers over them. -/
import Derived.Test.YtefjhkcafcchlaaFn4
import Derived.Test.YtefjhkcafcchlaaFn6
namespace Go.Proofs.Ytefjhkcafcchlaa
open Go.RowKit

abbrev PairD := List Int × List Int
def gp (ps : List PairD) (i : Nat) : PairD := ps.getD i ([], [])
theorem gp_get {xs : List PairD} {i : Nat} (h : i < xs.length) : gp xs i = xs[i] := by simp [gp, h]
theorem gp_mem {xs : List PairD} {i : Nat} (h : i < xs.length) : gp xs i ∈ xs := by rw [gp_get h]; exact List.getElem_mem h
theorem mem_gp {xs : List PairD} {x : PairD} (h : x ∈ xs) : ∃ i, i < xs.length ∧ gp xs i = x := by
  obtain ⟨i, hi, rfl⟩ := List.getElem_of_mem h
  exact ⟨i, hi, gp_get hi⟩
/-- a slice of pairs that reads as a list -/
def RPS (w : World) (A : Option Addr) (n c : Nat) (ps : List PairD) : Prop :=
  ps.length = n ∧ (n ≤ c ∧ c ≤ 9223372036854775807) ∧ ∀ i, i < n → ∃ b off A1 n1 c1 A2 n2 c2, A = some ⟨b, off, none⟩ ∧
    w.cell? ⟨b, off + i * 2, none⟩ = some (.slice A1 n1 c1) ∧ w.cell? ⟨b, off + i * 2 + 1, none⟩ = some (.slice A2 n2 c2) ∧ RI w A1 n1 c1 (gp ps i).1 ∧ RI w A2 n2 c2 (gp ps i).2
section
variable {w w' : World} {A : Option Addr} {n c : Nat} {ps : List PairD}
theorem RPS.len (h : RPS w A n c ps) : ps.length = n := h.1
theorem RPS.cap (h : RPS w A n c ps) : n ≤ c := h.2.1.1
theorem RPS.top (h : RPS w A n c ps) : c ≤ 9223372036854775807 := h.2.1.2
theorem RPS.at_ (h : RPS w A n c ps) {i : Nat} (hi : i < n) : ∃ b off A1 n1 c1 A2 n2 c2, A = some ⟨b, off, none⟩ ∧
    w.cell? ⟨b, off + i * 2, none⟩ = some (.slice A1 n1 c1) ∧ w.cell? ⟨b, off + i * 2 + 1, none⟩ = some (.slice A2 n2 c2) ∧ RI w A1 n1 c1 (gp ps i).1 ∧ RI w A2 n2 c2 (gp ps i).2 := h.2.2 i hi
theorem RPS.keep (h : RPS w A n c ps) (k : Keeps w w') : RPS w' A n c ps :=
  ⟨h.1, h.2.1, fun i hi => by
    obtain ⟨b, off, A1, n1, c1, A2, n2, c2, e, hc1, hc2, h1, h2⟩ := h.2.2 i hi
    exact ⟨b, off, A1, n1, c1, A2, n2, c2, e, k _ _ hc1, k _ _ hc2, h1.keep k, h2.keep k⟩⟩
end
noncomputable def pairsB (ps : List PairD) (n : Int) : Bool := decide (ps.length ≤ 4) && ps.all (fun p => setB p.1 n && setB p.2 n)
theorem pairsB_of {ps : List PairD} {n : Int} {m : Nat} (hl : ps.length = m) (hm : m ≤ 4) (h : ∀ i, i < m → (setB (gp ps i).1 n && setB (gp ps i).2 n) = true) : pairsB ps n = true := by
  unfold pairsB
  rw [Bool.and_eq_true, List.all_eq_true]
  refine ⟨decide_eq_true (by omega), fun p hp => ?_⟩
  obtain ⟨i, hi, rfl⟩ := mem_gp hp
  exact h i (by omega)
theorem pairsB_long {ps : List PairD} {n : Int} {m : Nat} (hl : ps.length = m) (hm : ¬ m ≤ 4) : pairsB ps n = false := by
  unfold pairsB
  rw [decide_eq_false (by omega)]
  rfl
theorem pairsB_no {ps : List PairD} {n : Int} {m k : Nat} (hl : ps.length = m) (hk : k < m) (h : (setB (gp ps k).1 n && setB (gp ps k).2 n) = false) : pairsB ps n = false := by
  unfold pairsB
  rw [Bool.and_eq_false_iff]
  right
  rw [List.all_eq_false]
  exact ⟨gp ps k, gp_mem (by omega), by rw [h]; simp⟩

set_option maxHeartbeats 400000 in
theorem specPairsOk (A : Option Addr) (m c : Nat) (ps : List PairD) (n : Int) (w : World) (ha : RPS w A m c ps) :
    Calls Try.prog 66 #[.slice A m c, .int .i64 n] w fun e w' => e = .returned (.bool (inR n 0 256 && pairsB ps n)) ∧ Qt w w' := by
  have b1 := ha.cap; have b2 := ha.top
  by_cases h1 : inR n 0 256 = true
  · have E0 := Lib.hid (show (inR n 0 256 && pairsB ps n) = pairsB ps n by rw [h1]; rfl)
    by_cases h2 : m ≤ 4
    · go_enter Try.func66, Try.ntmps66
      go_wp2_with (go_at_call 94; refine (l1In _ _ _ _).mono ?_; rintro e w' ⟨rfl, q, rfl⟩)
      go_loopw [5] (fun i wr => ∃ k : Nat, k ≤ m ∧ i = .int .i64 k ∧ (∀ j, j < k → (setB (gp ps j).1 n && setB (gp ps j).2 n) = true) ∧ ∃ q, wr = w.drewN q) (fun i _ => m - (intOf i).toNat)
      case atStart => exact ⟨0, Nat.zero_le _, rfl, by omega, _, rfl⟩
      case round =>
        obtain ⟨k, hk, rfl, hall, q, rfl⟩ := hrel
        have HA := Lib.hid hall
        clear hall
        by_cases hlt : k < m
        · obtain ⟨b, off, A1, n1, c1, A2, n2, c2, rfl, hc1, hc2, r1, r2⟩ := ha.at_ hlt
          by_cases h3 : setB (gp ps k).1 n = true
          · by_cases h4 : setB (gp ps k).2 n = true
            · have H := Lib.hid (show (setB (gp ps k).1 n && setB (gp ps k).2 n) = true by rw [h3, h4]; rfl)
              go_wp2_with fail
              refine (SetOk _ _ _ _ _ _ (r1.keep (Qt.keeps ⟨_, rfl⟩))).mono ?_; rintro e w' ⟨rfl, q1, rfl⟩
              go_wp2_with fail
              refine (SetOk _ _ _ _ _ _ (r2.keep (Qt.keeps ⟨_, rfl⟩))).mono ?_; rintro e w' ⟨rfl, q2, rfl⟩
              go_wp2
              go_roundw
              case rel => exact ⟨k + 1, by omega, by go_num, all_succ HA.out H.out, _, rfl⟩
              case measure => simp [intOf]; omega
            · replace h4 : setB (gp ps k).2 n = false := by simpa using h4
              have E := Lib.hid (pairsB_no ha.len hlt (show (setB (gp ps k).1 n && setB (gp ps k).2 n) = false by rw [h3, h4]; rfl))
              go_wp2_with fail
              refine (SetOk _ _ _ _ _ _ (r1.keep (Qt.keeps ⟨_, rfl⟩))).mono ?_; rintro e w' ⟨rfl, q1, rfl⟩
              go_wp2_with fail
              refine (SetOk _ _ _ _ _ _ (r2.keep (Qt.keeps ⟨_, rfl⟩))).mono ?_; rintro e w' ⟨rfl, q2, rfl⟩
              go_wp2
              go_ret
              exact ⟨ret_b (by rw [E0.out, E.out]), _, rfl⟩
          · replace h3 : setB (gp ps k).1 n = false := by simpa using h3
            have E := Lib.hid (pairsB_no ha.len hlt (show (setB (gp ps k).1 n && setB (gp ps k).2 n) = false by rw [h3]; rfl))
            go_wp2_with fail
            refine (SetOk _ _ _ _ _ _ (r1.keep (Qt.keeps ⟨_, rfl⟩))).mono ?_; rintro e w' ⟨rfl, q1, rfl⟩
            go_wp2
            go_ret
            exact ⟨ret_b (by rw [E0.out, E.out]), _, rfl⟩
        · obtain rfl : k = m := by omega
          have E := Lib.hid (pairsB_of ha.len h2 HA.out)
          go_wp2
          go_ret
          exact ⟨ret_b (by rw [E0.out, E.out]), _, rfl⟩
    · have E := Lib.hid (pairsB_long (n := n) ha.len h2)
      go_enter Try.func66, Try.ntmps66
      go_wp2_with (go_at_call 94; refine (l1In _ _ _ _).mono ?_; rintro e w' ⟨rfl, q, rfl⟩)
      go_ret
      exact ⟨ret_b (by rw [E0.out, E.out]), _, rfl⟩
  · replace h1 : inR n 0 256 = false := by simpa using h1
    have E := Lib.hid (show (inR n 0 256 && pairsB ps n) = false by rw [h1]; rfl)
    go_enter Try.func66, Try.ntmps66
    go_wp2_with (go_at_call 94; refine (l1In _ _ _ _).mono ?_; rintro e w' ⟨rfl, q, rfl⟩)
    go_ret
    exact ⟨ret_b E.out.symm, _, rfl⟩

set_option maxHeartbeats 400000 in
theorem arePairs (A : Option Addr) (m c : Nat) (ps : List PairD) (n : Int) (w : World) (B : Nat) (hB : B ≤ w.heap.size) (ha : RPS w A m c ps) :
    Calls Try.prog 147 #[.slice A m c, .int .i64 n] w fun e w' => e = .returned (.bool (pairsB ps n)) ∧ Below B w w' := by
  have b1 := ha.cap; have b2 := ha.top
  go_enter Try.func147, Try.ntmps147
  go_wp2
  go_loopw [9] (fun i wr => ∃ k : Nat, k ≤ m ∧ i = .int .i64 k ∧ (∀ j, j < k → (setB (gp ps j).1 n && setB (gp ps j).2 n) = true) ∧ Below w.heap.size w wr) (fun i _ => m - (intOf i).toNat)
  case atStart => exact ⟨0, Nat.zero_le _, rfl, by omega, Below.refl _ _⟩
  case round =>
    obtain ⟨k, hk, rfl, hall, hbr⟩ := hrel
    have HA := Lib.hid hall
    clear hall
    by_cases hlt : k < m
    · obtain ⟨b, off, A1, n1, c1, A2, n2, c2, rfl, hc1, hc2, r1, r2⟩ := (ha.keep (keeps_below hbr)).at_ hlt
      replace r1 := r1.keep (keeps_alloc wr (.cells #[.slice A1 n1 c1, .slice A2 n2 c2] 128))
      replace r2 := r2.keep (keeps_alloc wr (.cells #[.slice A1 n1 c1, .slice A2 n2 c2] 128))
      have hba : Below w.heap.size w (wr.alloc (.cells #[.slice A1 n1 c1, .slice A2 n2 c2] 128)) := below_alloc (Nat.le_refl _) hbr
      by_cases h3 : setB (gp ps k).1 n = true
      · by_cases h4 : setB (gp ps k).2 n = true
        · have H := Lib.hid (show (setB (gp ps k).1 n && setB (gp ps k).2 n) = true by rw [h3, h4]; rfl)
          go_wp2_with fail
          refine (isSet _ _ _ _ _ _ r1).mono ?_; rintro e w' ⟨rfl, q1, rfl⟩
          go_wp2_with fail
          refine (isSet _ _ _ _ _ _ (r2.keep (Qt.keeps ⟨_, rfl⟩))).mono ?_; rintro e w' ⟨rfl, q2, rfl⟩
          go_wp2
          go_roundw
          case rel => exact ⟨k + 1, by omega, by go_num, all_succ HA.out H.out, below_drewN hba _⟩
          case measure => simp [intOf]; omega
        · replace h4 : setB (gp ps k).2 n = false := by simpa using h4
          have E := Lib.hid (pairsB_no ha.len hlt (show (setB (gp ps k).1 n && setB (gp ps k).2 n) = false by rw [h3, h4]; rfl))
          go_wp2_with fail
          refine (isSet _ _ _ _ _ _ r1).mono ?_; rintro e w' ⟨rfl, q1, rfl⟩
          go_wp2_with fail
          refine (isSet _ _ _ _ _ _ (r2.keep (Qt.keeps ⟨_, rfl⟩))).mono ?_; rintro e w' ⟨rfl, q2, rfl⟩
          go_wp2
          go_ret
          exact ⟨ret_b E.out.symm, (below_drewN hba _).mono hB⟩
      · replace h3 : setB (gp ps k).1 n = false := by simpa using h3
        have E := Lib.hid (pairsB_no ha.len hlt (show (setB (gp ps k).1 n && setB (gp ps k).2 n) = false by rw [h3]; rfl))
        go_wp2_with fail
        refine (isSet _ _ _ _ _ _ r1).mono ?_; rintro e w' ⟨rfl, q1, rfl⟩
        go_wp2
        go_ret
        exact ⟨ret_b E.out.symm, (below_drewN hba _).mono hB⟩
    · obtain rfl : k = m := by omega
      by_cases h2 : k ≤ 4
      · have E := Lib.hid (pairsB_of ha.len h2 HA.out)
        go_wp2
        go_ret
        exact ⟨ret_b (by rw [E.out]; simp; omega), hbr.mono hB⟩
      · have E := Lib.hid (pairsB_long (n := n) ha.len h2)
        go_wp2
        go_ret
        exact ⟨ret_b (by rw [E.out]; simp; omega), hbr.mono hB⟩

end Go.Proofs.Ytefjhkcafcchlaa
