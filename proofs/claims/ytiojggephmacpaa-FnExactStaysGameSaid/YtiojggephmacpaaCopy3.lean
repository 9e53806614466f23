/- l1CopyArena. -/
import Derived.Test.YtiojggephmacpaaCopy2
namespace Go.Proofs.Ytiojggephmacpaa
open Go.RowKit

set_option maxRecDepth 100000 in
set_option maxHeartbeats 1600000 in
theorem l1CopyArena (s0 s1 : Value) (z : ArD) (w : World) (B : Nat) (hB : B ≤ w.heap.size) (ha : RAv w s0 s1 z.1 z.2) (hf : fineAr z.1 z.2) :
    Calls Try.prog 129 #[.agg #[s0, s1]] w fun e w' => ∃ t0 t1, e = .returned (.agg #[t0, t1]) ∧ OArn w' B t0 t1 z ∧ Below B w w' := by
  obtain ⟨A0, n0, c0, A1, n1, c1, rfl, rfl⟩ := ha.form
  have hr := ha.ri; have hrr := ha.rii
  have b1 := hrr.cap; have b2 := hrr.top
  have HL := Lib.hid hr.len; have HM := Lib.hid hrr.len
  have hn0 : n0 ≤ 1048576 := by have := hf.2.1; rw [HL.out] at this; omega
  have hn1 : n1 ≤ 1048576 := by have := hf.2.2.1; rw [HM.out, HL.out] at this; omega
  have hle : ∀ i, i < n1 → (gl z.2 i).length ≤ 1048576 := fun i hi => by
    have h3 := hf.2.2.1
    have := (hf.2.2.2 i (by rw [← h3, HM.out]; exact hi)).2.1.2
    omega
  have HLE := Lib.hid hle
  clear hle hf
  have hwL : Below w.heap.size w ((w.alloc (.cells #[.slice A0 n0 c0, .slice A1 n1 c1] 64)).alloc (.cells #[.slice none 0 0, .slice none 0 0] 64)) := below_alloc (Nat.le_refl _) (below_alloc (Nat.le_refl _) (Below.refl _ _))
  have bxL := (Box.new w 64 #[.slice A0 n0 c0, .slice A1 n1 c1]).alloc (.cells #[.slice none 0 0, .slice none 0 0] 64)
  have brL : Box ((w.alloc (.cells #[.slice A0 n0 c0, .slice A1 n1 c1] 64)).alloc (.cells #[.slice none 0 0, .slice none 0 0] 64)) (w.heap.size + 1) 64 #[.slice none 0 0, .slice none 0 0] := Box.new' (by simp)
  have hsL : w.heap.size + 2 = ((w.alloc (.cells #[.slice A0 n0 c0, .slice A1 n1 c1] 64)).alloc (.cells #[.slice none 0 0, .slice none 0 0] 64)).heap.size := by simp
  have q0 := bxL.d0; have q1 := bxL.d1
  go_enter Try.func129, Try.ntmps129
  go_wp2_with fail
  generalize ((w.alloc (.cells #[.slice A0 n0 c0, .slice A1 n1 c1] 64)).alloc (.cells #[.slice none 0 0, .slice none 0 0] 64)) = W at *
  have HsL := Lib.hid hsL
  replace hsL : w.heap.size + 2 ≤ W.heap.size := by omega
  go_wp2_with (go_at_call 112; refine (l1Copy _ _ _ z.1 _ _ (Nat.le_refl _) (hr.keep (keeps_below hwL)) hn0).mono ?_; rintro e w1 ⟨v0, rfl, ho1, hb1⟩; obtain ⟨Av0, cv0, rfl⟩ := ho1.form; have hs1 := hb1.size; have bx1 := bxL.below hb1 (by omega); have br1 := brL.below hb1 (by omega))
  go_loopw [4] (fun i wr => ∃ (k : Nat) (v1 : Value) (L : List (List Int)), k ≤ n1 ∧ i = .int .i64 k ∧ L = z.2.take k ∧ OArn wr (w1.heap.size + 1) (.slice none 0 0) v1 ([], L) ∧ Box wr w1.heap.size 64 #[.slice Av0 z.1.length cv0, v1] ∧ Below w1.heap.size w1 wr ∧ w1.heap.size + 1 ≤ wr.heap.size) (fun i _ => n1 - (intOf i).toNat)
  case atStart => exact ⟨0, _, [], Nat.zero_le _, rfl, rfl, OArn.nil _ _, Box.new _ _ _, below_alloc (Nat.le_refl _) (Below.refl _ _), by simp⟩
  case round =>
    obtain ⟨k, v1, L, hk, rfl, hLk, ho, bR, hbr, hsr⟩ := hrel
    have HLk := Lib.hid hLk
    have hlen : L.length ≤ 4194304 := by rw [hLk, List.length_take, HM.out]; omega
    clear hLk
    obtain ⟨A3, c3, Av, cv, h0e, rfl⟩ := ho.form
    clear h0e
    have bX := bx1.below hbr (by omega)
    have g0 := bX.d0
    have g1 := bX.d1
    by_cases hlt : k < n1
    · obtain ⟨bb, off, A4, n4, c4, rfl, hc, r4⟩ := (ha.rii.keep (keeps_below ((hwL.trans (hb1.mono (by omega))).trans (hbr.mono (by omega))))).at_ hlt
      have hbb : bb < w.heap.size := by
        obtain ⟨bb', off', A4', n4', c4', e', hc', _⟩ := ha.rii.at_ hlt
        injection e' with e'
        injection e' with e2 e3
        subst e2
        simpa using World.block_lt_of_cell? w _ hc'
      have hl4 : n4 ≤ 1048576 := by have := HLE.out k hlt; rw [r4.len] at this; exact this
      have p0 := bR.d0
      have p1 := bR.d1
      have hX := Lib.hid (take_gl (xs := z.2) (k := k) (by rw [HM.out]; exact hlt))
      have hdr : Below wr.heap.size wr wr.drew := Below.drew (Below.refl _ _)
      have r4d := r4.keep (keeps_below hdr)
      go_wp2_with fail
      go_region_law (first
        | (go_simp
           go_at_call 112
           refine (l1Copy _ _ _ (gl z.2 k) _ _ (Nat.le_refl _) (by first | exact r4d | exact r4) hl4).mono ?_
           rintro e w2 ⟨u, rfl, ho2, hb2⟩
           obtain ⟨Au, cu, rfl⟩ := ho2.form
           have hw2 : Below wr.heap.size wr w2 := by first | exact hdr.trans hb2 | exact hb2
           have bR2 := bR.below hw2 (by omega)
           have bX2 := bX.below hw2 (by omega)
           have S2 : w2.cell? ⟨bb, off + k, none⟩ = some (.slice A4 n4 c4) := (hw2.cell (by show bb < _; omega)).trans hc
           have P0 := bR2.d0
           have P1 := bR2.d1
           have G0 := bX2.d0
           have G1 := bX2.d1
           have PA1 := (bR2.alloc (.cells #[.slice Au (gl z.2 k).length cu] 23)).d1)
        | (refine step_of_list (by rfl) (wp_pushN (.tmp 17) (.tmp 24) (by rfl) wr w2 (w1.heap.size + 1) (.slice none 0 0) (.slice Av L.length cv) ([], L) (.slice Au (gl z.2 k).length cu) (gl z.2 k) (by rfl) (by rfl) hsr ho hw2 ho2 hlen ?_)
           intro v3 w3 ho3 hb3 hc3 hat3
           obtain ⟨_, _, Av3, cv3, h0e3, rfl⟩ := ho3.form
           clear h0e3
           have bR3 := bR2.below hb3 (by omega)
           have T1 := bR3.d1
           have F1 := bR3.hot 1))
      all_goals
        have ch : Chg (fun b => b = w1.heap.size) w3 (w3.setCell ⟨w1.heap.size, 1, none⟩ (.slice Av3 (L.length + 1) cv3)) := Chg.set (w := w3) ⟨w1.heap.size, 1, none⟩ (.slice Av3 (L.length + 1) cv3)
        have bF : Box (w3.setCell ⟨w1.heap.size, 1, none⟩ (.slice Av3 (L.length + 1) cv3)) w1.heap.size 64 #[.slice Av0 z.1.length cv0, .slice Av3 (L.length + 1) cv3] := bR3.set_ 1 (.slice Av3 (L.length + 1) cv3)
        have hs2 := hw2.size
        have hs3 := hb3.size
        have hbF : Below w1.heap.size w1 (w3.setCell ⟨w1.heap.size, 1, none⟩ (.slice Av3 (L.length + 1) cv3)) := (hbr.trans ((hw2.mono (by omega)).trans (hb3.mono (by omega)))).trans (ch.below (by omega) (fun b hb => by omega))
        have fin : OArn (w3.setCell ⟨w1.heap.size, 1, none⟩ (.slice Av3 (L.length + 1) cv3)) (w1.heap.size + 1) (.slice none 0 0) (.slice Av3 (L.length + 1) cv3) ([], L ++ [gl z.2 k]) := by have h := ho3.chg ch (fun b hb => by omega); simpa using h
        have hsF := ch.size
        go_wp2
        go_roundw
        case rel => exact ⟨k + 1, _, _, by omega, by go_num, by rw [hX.out, ← HLk.out], fin, bF, hbF, by omega⟩
        case measure => simp [intOf]; omega
    · obtain rfl : k = n1 := by omega
      have HE := Lib.hid (show z.2.take k = z.2 from List.take_of_length_le (by rw [HM.out]; omega))
      have p0 := bR.d0
      have p1 := bR.d1
      have brX := br1.below hbr (by omega)
      have e0 := brX.d0
      have e1 := brX.d1
      have f0 := brX.hot 0
      have f1 := brX.hot 1
      have ch : Chg (fun b => b = w.heap.size + 1) wr ((wr.setCell ⟨w.heap.size + 1, 0, none⟩ (.slice Av0 z.1.length cv0)).setCell ⟨w.heap.size + 1, 1, none⟩ (.slice Av L.length cv)) := (Chg.set (w := wr) ⟨w.heap.size + 1, 0, none⟩ (.slice Av0 z.1.length cv0)).trans (Chg.set ⟨w.heap.size + 1, 1, none⟩ (.slice Av L.length cv)) (U := fun b => b = w.heap.size + 1) (fun _ h => h) (fun _ h => h)
      have bF : Box ((wr.setCell ⟨w.heap.size + 1, 0, none⟩ (.slice Av0 z.1.length cv0)).setCell ⟨w.heap.size + 1, 1, none⟩ (.slice Av L.length cv)) (w.heap.size + 1) 64 #[.slice Av0 z.1.length cv0, .slice Av L.length cv] := (brX.set_ 0 (.slice Av0 z.1.length cv0)).set_ 1 (.slice Av L.length cv)
      have R0 := bF.d0
      have R1 := bF.d1
      have ho0 := (ho1.below hbr).more (lo' := w.heap.size + 2) hsL
      have hoE : OArn wr (w1.heap.size + 1) (.slice none 0 0) (.slice Av L.length cv) ([], z.2) := by rw [← HE.out, ← HLk.out]; exact ho
      have fo : OArn wr (w.heap.size + 2) (.slice Av0 z.1.length cv0) (.slice Av L.length cv) (z.1, z.2) := OArn.join hoE (Far.refl _ _) ho0 (by omega) (fun b hb => .inl (by have := (ho1.lt b hb).2; omega))
      have hwF : Below w.heap.size w ((wr.setCell ⟨w.heap.size + 1, 0, none⟩ (.slice Av0 z.1.length cv0)).setCell ⟨w.heap.size + 1, 1, none⟩ (.slice Av L.length cv)) := ((hwL.trans (hb1.mono (by omega))).trans (hbr.mono (by omega))).trans (ch.below (by omega) (fun b hb => by omega))
      have fin := fo.chg ch (fun b hb => by omega)
      go_wp2
      exact bodyPost_ret (v := .agg #[.slice Av0 z.1.length cv0, .slice Av L.length cv]) (by simp [results, Try.results129, go_sem, R0, R1]) rfl ⟨_, _, rfl, fin.more (by omega), hwF.mono hB⟩
end Go.Proofs.Ytiojggephmacpaa
