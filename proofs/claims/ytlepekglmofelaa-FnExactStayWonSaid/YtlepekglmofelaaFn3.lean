/- Contracts: impl.isRecord, impl.RecordOk, laws.toInt64S. -/
import Derived.Test.YtlepekglmofelaaFn2
namespace Go.Proofs.Ytlepekglmofelaa
open Go.RowKit

theorem infoB : (Try.prog.info? 4).map (fun i => (i.zero, i.size, i.bytes)) = some (some (.bool false), 1, 1) := by kernel_rfl
theorem infoI : (Try.prog.info? 2).map (fun i => (i.zero, i.size, i.bytes)) = some (some (.int .i64 0), 1, 8) := by kernel_rfl

set_option maxRecDepth 100000 in
set_option maxHeartbeats 400000 in
theorem isRecord (A : Option Addr) (n c : Nat) (xs : List Int) (k : Int) (w : World) (B : Nat) (hB : B ≤ w.heap.size) (ha : RI w A n c xs) :
    Calls Try.prog 123 #[.slice A n c, .int .i64 k] w fun e w' => e = .returned (.bool (recOk xs k)) ∧ Below B w w' := by
  have b1 := ha.cap; have b2 := ha.top
  by_cases h0 : k < 0
  · have H := Lib.hid (recOk_k (xs := xs) (k := k) (decide_eq_false (by omega)))
    go_enter Try.func123, Try.ntmps123
    go_wp2
    go_ret
    exact ⟨ret_b H.out.symm, Below.refl _ _⟩
  by_cases h4 : 4 < k
  · have H := Lib.hid (recOk_k (xs := xs) (k := k) (decide_eq_false (by omega)))
    go_enter Try.func123, Try.ntmps123
    go_wp2
    go_ret
    exact ⟨ret_b H.out.symm, Below.refl _ _⟩
  by_cases h2 : (n : Int) = k
  · subst h2
    have hnn : ((n : Int) != (n : Int)) = false := by simp
    have hn4 : n ≤ 4 := by omega
    obtain ⟨ib, hi, hz0, hz1, hz2⟩ := info_parts infoB
    go_enter Try.func123, Try.ntmps123
    go_wp2_with (refine wpList_make_full _ rfl (.tmp 20) (.tmp 20) 112 rfl w.heap.size 4 ib (.bool false) 1 Try.underlying112 hi hz0 hz1 .i64 .i64 _ _ n rfl rfl rfl rfl (by rw [hz2]; omega) (by unfold maxLen; omega) (Nat.le_refl _) ?_; intro w1 hown hgrow)
    have how := OB.made hown rfl
    have hbel : Below w.heap.size w w1 := (Below.refl _ _).grown hgrow (Nat.le_refl _) (by simp)
    have HG := Lib.hid hgrow
    clear hgrow hown
    go_loopw [24] (fun i wr => ∃ j : Nat, j ≤ n ∧ i = .int .i64 j ∧ (∀ i, i < j → inR (gi xs i) 0 ((n : Int) - 1) = true ∧ hasL (xs.take i) (gi xs i) = false) ∧ Below w.heap.size w wr ∧
      ∃ bs, bs.length = n ∧ OB 4 wr w.heap.size (.slice (some ⟨w.heap.size, 0, none⟩) n n) bs ∧ ∀ i, i < n → gb bs i = hasL (xs.take j) (i : Int)) (fun i _ => n - (intOf i).toNat)
    case atStart => exact ⟨0, Nat.zero_le _, rfl, by omega, hbel, _, by simp, how, fun i hi => by simp [gb, hasL, hi]⟩
    case round =>
      obtain ⟨j, hj, rfl, hall, hb, bs, hlb, hob, hseen⟩ := hrel
      have HA := Lib.hid hall
      have HS := Lib.hid hseen
      have HL := Lib.hid hlb
      have HO := Lib.hid hob
      clear hall hseen hlb hob
      by_cases hlt : j < n
      · obtain ⟨b, off, rfl, hc0⟩ := ha.at_ hlt
        have hbb : b < w.heap.size := by have := World.block_lt_of_cell? w _ hc0; simp at this; omega
        have hc1 : wr.cell? ⟨b, off + j, none⟩ = some (.int .i64 (gi xs j)) := (hb.cell hbb).trans hc0
        clear hc0
        by_cases h5 : gi xs j < 0
        · go_wp2
          go_ret
          exact ⟨ret_b (recOk_in ha.len hlt (decide_eq_false (by omega))).symm, hb.mono hB⟩
        by_cases h6 : (n : Int) ≤ gi xs j
        · go_wp2
          go_ret
          exact ⟨ret_b (recOk_in ha.len hlt (decide_eq_false (by omega))).symm, hb.mono hB⟩
        obtain ⟨m, hm⟩ := Int.eq_ofNat_of_zero_le (show 0 ≤ gi xs j by omega)
        have hmn : m < n := by omega
        have HM := Lib.hid hm
        rw [hm] at hc1
        clear hm h5 h6
        have hcm := HO.out.at_ (i := m) (by rw [HL.out]; exact hmn)
        rw [HS.out m hmn] at hcm
        have hfz := HO.out.hot (i := m) HL.out.symm
        by_cases h7 : hasL (xs.take j) (m : Int) = true
        · go_wp2
          go_ret
          exact ⟨ret_b (recOk_has ha.len hlt (by rw [HM.out]; exact h7)).symm, hb.mono hB⟩
        · have h7' : hasL (xs.take j) (m : Int) = false := by simpa using h7
          clear h7
          go_wp2
          go_roundw
          case rel =>
            refine ⟨j + 1, by omega, by go_num, all_succ HA.out ⟨decide_eq_true (by rw [HM.out]; omega), by rw [HM.out]; exact h7'⟩, hb.setCell (Nat.le_refl _) _, _, ?_, HO.out.set_ HL.out.symm _, ?_⟩
            · rw [List.length_set]; exact HL.out
            · intro i hi
              rw [gb_set (by rw [HL.out]; exact hmn), take_gi (by rw [ha.len]; exact hlt), HM.out, HS.out i hi]
              unfold hasL
              by_cases e : m = i
              · subst e; simp
              · rw [if_neg e]
                have : ¬ (i : Int) = (m : Int) := by omega
                simp [this]
          case measure => simp [intOf]; omega
      · go_wp2
        go_ret
        obtain rfl : j = n := by omega
        exact ⟨ret_b (recOk_of ha.len (decide_eq_true (by omega)) rfl HA.out).symm, hb.mono hB⟩
  · have h2' : ((n : Int) != k) = true := by simp [h2]
    have H2 := Lib.hid h2
    clear h2
    go_enter Try.func123, Try.ntmps123
    go_wp2
    go_ret
    exact ⟨ret_b (recOk_len ha.len H2.out).symm, Below.refl _ _⟩

set_option maxRecDepth 100000 in
set_option maxHeartbeats 400000 in
/-- toInt64S: a copy in new memory -/
theorem toInts (A : Option Addr) (n c : Nat) (xs : List Int) (w : World) (B : Nat) (hB : B ≤ w.heap.size) (ha : RI w A n c xs) (hn : n ≤ 1048576) :
    Calls Try.prog 34 #[.slice A n c] w fun e w' => ∃ v, e = .returned v ∧ OI 2 w' B v xs ∧ Below B w w' := by
  have b1 := ha.cap; have b2 := ha.top
  obtain ⟨ib, hi, hz0, hz1, hz2⟩ := info_parts infoI
  go_enter Try.func34, Try.ntmps34
  go_wp2_with (refine wpList_make_full _ rfl (.tmp 6) (.tmp 6) 22 rfl w.heap.size 2 ib (.int .i64 0) 1 Try.underlying22 hi hz0 hz1 .i64 .i64 _ _ n rfl rfl rfl rfl (by rw [hz2]; omega) (by unfold maxLen; omega) (Nat.le_refl _) ?_; intro w1 hown hgrow)
  have how := OI.made hown rfl
  have hbel : Below w.heap.size w w1 := (Below.refl _ _).grown hgrow (Nat.le_refl _) (by simp)
  have HG := Lib.hid hgrow
  clear hgrow hown
  go_loopw [4] (fun i wr => ∃ j : Nat, j ≤ n ∧ i = .int .i64 j ∧ Below w.heap.size w wr ∧
      ∃ ys, ys.length = n ∧ OI 2 wr w.heap.size (.slice (some ⟨w.heap.size, 0, none⟩) n n) ys ∧ ∀ i, i < j → gi ys i = gi xs i) (fun i _ => n - (intOf i).toNat)
  case atStart => exact ⟨0, Nat.zero_le _, rfl, hbel, _, by simp, how, by omega⟩
  case round =>
    obtain ⟨j, hj, rfl, hb, ys, hly, hoi, hall⟩ := hrel
    have HA := Lib.hid hall
    have HL := Lib.hid hly
    have HO := Lib.hid hoi
    clear hall hly hoi
    by_cases hlt : j < n
    · obtain ⟨b, off, rfl, hc0⟩ := ha.at_ hlt
      have hbb : b < w.heap.size := by have := World.block_lt_of_cell? w _ hc0; simpa using this
      have hc1 : wr.cell? ⟨b, off + j, none⟩ = some (.int .i64 (gi xs j)) := (hb.cell hbb).trans hc0
      clear hc0
      have hcm := HO.out.cellAt (i := j) (by rw [HL.out]; exact hlt)
      have hfz := HO.out.hot (i := j) HL.out.symm
      go_wp2
      go_roundw
      case rel =>
        refine ⟨j + 1, by omega, by go_num, hb.setCell (Nat.le_refl _) _, _, ?_, HO.out.set_ HL.out.symm _, ?_⟩
        · rw [List.length_set]; exact HL.out
        · intro i hi
          rw [gi_set (by rw [HL.out]; exact hlt)]
          split
          · subst_vars; rfl
          · exact HA.out i (by omega)
      case measure => simp [intOf]; omega
    · go_wp2
      go_ret
      obtain rfl : j = n := by omega
      obtain rfl : ys = xs := gi_ext (by rw [HL.out, ha.len]) fun i hi => HA.out i (by rw [← HL.out]; exact hi)
      exact ⟨_, rfl, HO.out.more hB, hb.mono hB⟩
end Go.Proofs.Ytlepekglmofelaa
