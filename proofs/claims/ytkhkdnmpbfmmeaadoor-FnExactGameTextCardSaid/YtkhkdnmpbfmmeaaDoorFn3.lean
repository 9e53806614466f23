/- Contracts: impl.isRecord, impl.RecordOk, laws.toInt64S. -/
import Derived.Test.YtkhkdnmpbfmmeaaDoorFn2
namespace Go.Proofs.YtkhkdnmpbfmmeaaDoor
open Go.RowKit

theorem infoI : (Tryd.prog.info? 2).map (fun i => (i.zero, i.size, i.bytes)) = some (some (.int .i64 0), 1, 8) := by kernel_rfl

set_option maxRecDepth 100000 in
set_option maxHeartbeats 400000 in
/-- toInt64S: a copy in new memory -/
theorem toInts (A : Option Addr) (n c : Nat) (xs : List Int) (w : World) (B : Nat) (hB : B ≤ w.heap.size) (ha : RI w A n c xs) (hn : n ≤ 1048576) :
    Calls Tryd.prog 18 #[.slice A n c] w fun e w' => ∃ v, e = .returned v ∧ OI 2 w' B v xs ∧ Below B w w' := by
  have b1 := ha.cap; have b2 := ha.top
  obtain ⟨ib, hi, hz0, hz1, hz2⟩ := info_parts infoI
  go_enter Tryd.func18, Tryd.ntmps18
  go_wp2_with (refine wpList_make_full _ rfl (.tmp 6) (.tmp 6) 22 rfl w.heap.size 2 ib (.int .i64 0) 1 Tryd.underlying22 hi hz0 hz1 .i64 .i64 _ _ n rfl rfl rfl rfl (by rw [hz2]; omega) (by unfold maxLen; omega) (Nat.le_refl _) ?_; intro w1 hown hgrow)
  have how := OI.made hown rfl
  have hbel : Below w.heap.size w w1 := (Below.refl _ _).grown hgrow (Nat.le_refl _) (by simp)
  have HG := Lib.hid hgrow
  clear hgrow hown
  go_loopw [4] (fun i wr => ∃ j : Nat, j ≤ n ∧ i = .int .i64 j ∧ Below w.heap.size w wr ∧
      ∃ ys, ys.length = n ∧ OI 2 wr w.heap.size (.slice (some ⟨w.heap.size, 0, none⟩) n n) ys ∧ ∀ i, i < j → gi ys i = gi xs i) (fun i _ => n - (intOf i).toNat)
  case atStart => exact ⟨0, Nat.zero_le _, rfl, hbel, _, by simp, how, by omega⟩
  case round =>
    obtain ⟨j, hj, rfl, hb, ys, hly, hoi, hall⟩ := hrel
    have HA := Lib.hid hall
    have HL := Lib.hid hly
    have HO := Lib.hid hoi
    clear hall hly hoi
    by_cases hlt : j < n
    · obtain ⟨b, off, rfl, hc0⟩ := ha.at_ hlt
      have hbb : b < w.heap.size := by have := World.block_lt_of_cell? w _ hc0; simpa using this
      have hc1 : wr.cell? ⟨b, off + j, none⟩ = some (.int .i64 (gi xs j)) := (hb.cell hbb).trans hc0
      clear hc0
      have hcm := HO.out.cellAt (i := j) (by rw [HL.out]; exact hlt)
      have hfz := HO.out.hot (i := j) HL.out.symm
      go_wp2
      go_roundw
      case rel =>
        refine ⟨j + 1, by omega, by go_num, hb.setCell (Nat.le_refl _) _, _, ?_, HO.out.set_ HL.out.symm _, ?_⟩
        · rw [List.length_set]; exact HL.out
        · intro i hi
          rw [gi_set (by rw [HL.out]; exact hlt)]
          split
          · subst_vars; rfl
          · exact HA.out i (by omega)
      case measure => simp [intOf]; omega
    · go_wp2
      go_ret
      obtain rfl : j = n := by omega
      obtain rfl : ys = xs := gi_ext (by rw [HL.out, ha.len]) fun i hi => HA.out i (by rw [← HL.out]; exact hi)
      exact ⟨_, rfl, HO.out.more hB, hb.mono hB⟩
end Go.Proofs.YtkhkdnmpbfmmeaaDoor
