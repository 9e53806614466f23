/- Contracts: szInt64S; sz, to, eq of a struct of two slices. -/
import Derived.Test.YtkhkdnmpbfmmeaaDoorFn3
namespace Go.Proofs.YtkhkdnmpbfmmeaaDoor
open Go.RowKit

theorem szInts (A : Option Addr) (n c : Nat) (l : Int) (w : World) (h0 : 0 ≤ l) (h1 : l ≤ 1048576) (hn : n ≤ 9223372036854775807) :
    Calls Tryd.prog 47 #[.slice A n c, .int .i64 l] w fun e w' => e = .returned (.int .i64 (szF l n)) ∧ Qt w w' := by
  by_cases h : (n : Int) ≤ l
  · have E := Lib.hid (szF_yes h)
    go_enter Tryd.func47, Tryd.ntmps47
    go_wp2
    go_ret
    exact ⟨ret_i E.out.symm, Qt.refl _⟩
  · have E := Lib.hid (szF_no h)
    go_enter Tryd.func47, Tryd.ntmps47
    go_wp2
    go_ret
    exact ⟨ret_i E.out.symm, Qt.refl _⟩
set_option maxHeartbeats 400000 in
theorem szAnswer (A A' : Option Addr) (n c m d : Nat) (l : Int) (w : World) (B : Nat) (hB : B ≤ w.heap.size) (h0 : 0 ≤ l) (h1 : l ≤ 1048576) (hn : n ≤ 9223372036854775807) (hm : m ≤ 9223372036854775807) :
    Calls Tryd.prog 12 #[.agg #[.slice A n c, .slice A' m d], .int .i64 l] w fun e w' => e = .returned (.int .i64 (szF l (n + m))) ∧ Below B w w' := by
  by_cases ha : (n : Int) ≤ l
  · have e1 : szF l n = l - n := szF_yes ha
    have E1 := Lib.hid e1
    clear e1
    by_cases hb : (m : Int) ≤ l - n
    · have E2 := Lib.hid (szF_two ha hb)
      have E3 := Lib.hid (szF_yes hb)
      go_enter Tryd.func12, Tryd.ntmps12
      go_wp2_with fail
      refine (szInts _ _ _ _ _ h0 h1 hn).mono ?_; rintro e w' ⟨rfl, q, rfl⟩
      rw [E1.out]
      go_wp2_with fail
      refine (szInts _ _ _ _ _ (by omega) (by omega) hm).mono ?_; rintro e w' ⟨rfl, p, rfl⟩
      rw [E3.out]
      go_wp2
      go_ret
      exact ⟨ret_i E2.out.symm, below_drewN (below_alloc hB (Below.refl _ _)) _⟩
    · have E2 := Lib.hid (szF_two_no ha hb)
      have E3 := Lib.hid (szF_no hb)
      go_enter Tryd.func12, Tryd.ntmps12
      go_wp2_with fail
      refine (szInts _ _ _ _ _ h0 h1 hn).mono ?_; rintro e w' ⟨rfl, q, rfl⟩
      rw [E1.out]
      go_wp2_with fail
      refine (szInts _ _ _ _ _ (by omega) (by omega) hm).mono ?_; rintro e w' ⟨rfl, p, rfl⟩
      rw [E3.out]
      go_wp2
      go_ret
      exact ⟨ret_i E2.out.symm, below_drewN (below_alloc hB (Below.refl _ _)) _⟩
  · have E1 := Lib.hid (szF_no ha)
    have E2 := Lib.hid (szF_one_no (m := m) ha)
    go_enter Tryd.func12, Tryd.ntmps12
    go_wp2_with fail
    refine (szInts _ _ _ _ _ h0 h1 hn).mono ?_; rintro e w' ⟨rfl, q, rfl⟩
    rw [E1.out]
    go_wp2
    go_ret
    exact ⟨ret_i E2.out.symm, below_drewN (below_alloc hB (Below.refl _ _)) _⟩


set_option maxHeartbeats 400000 in
theorem toAnswer (A A' : Option Addr) (n c m d : Nat) (xs ys : List Int) (w : World) (B : Nat) (hB : B ≤ w.heap.size) (ha : RI w A n c xs) (hb : RI w A' m d ys) (hn : n ≤ 1048576) (hm : m ≤ 1048576) :
    Calls Tryd.prog 14 #[.agg #[.slice A n c, .slice A' m d]] w fun e w' => ∃ v u, e = .returned (.agg #[v, u]) ∧ OI 2 w' B v xs ∧ OI 2 w' B u ys ∧ Apart v u ∧ Below B w w' := by
  go_enter Tryd.func14, Tryd.ntmps14
  go_wp2_with fail
  refine (toInts _ _ _ _ _ _ (Nat.le_refl _) (ha.keep (keeps_below (by repeat (first | exact Below.refl _ _ | refine below_alloc (Nat.le_refl _) ?_ | refine below_drewN ?_ _)))) hn).mono ?_; rintro e w1 ⟨v1, rfl, ho1, hb1⟩
  obtain ⟨A1, c1, rfl⟩ := ho1.form
  replace ho1 := ho1.more (lo' := w.heap.size + 3) (by simp)
  obtain ⟨hc, hf⟩ := bcell hb1
  have hz : w.heap.size < w1.heap.size ∧ w.heap.size + 1 < w1.heap.size ∧ w.heap.size + 1 + 1 < w1.heap.size := by have := hb1.size; simp at this; omega
  obtain ⟨hz0, hz1, hz2⟩ := hz
  go_wp2_with fail
  refine (toInts _ _ _ _ _ _ (Nat.le_refl _) (hb.keep (keeps_below ?_)) hm).mono ?_
  · refine below_set (by show w.heap.size ≤ w.heap.size + 1 + 1; omega) (below_then hb1 (by show w.heap.size ≤ _; simp; omega) ?_)
    repeat (first | exact Below.refl _ _ | refine below_alloc (Nat.le_refl _) ?_)
  · rintro e w2 ⟨v2, rfl, ho2, hb2⟩
    obtain ⟨A2, c2, rfl⟩ := ho2.form
    obtain ⟨hc2, hf2⟩ := bcell hb2
    have ho1' := (ho1.far (p := ⟨w.heap.size + 1 + 1, 0, none⟩) (by show w.heap.size + 1 + 1 < _; omega) (.slice A1 xs.length c1)).below hb2
    have hap : Apart (.slice A1 xs.length c1) (.slice A2 ys.length c2) := apart_lt ho1 ho2 (by simp)
    replace ho2 := ho2.more (lo' := w.heap.size + 3) (by simp; omega)
    have hy : w.heap.size < w2.heap.size ∧ w.heap.size + 1 < w2.heap.size ∧ w.heap.size + 1 + 1 < w2.heap.size := by have := hb2.size; simp at this; omega
    obtain ⟨hy0, hy1, hy2⟩ := hy
    go_wp2_with fail
    refine bodyPost_ret (v := .agg #[.slice A1 xs.length c1, .slice A2 ys.length c2]) (by simp [results, Tryd.results14, go_sem, hc2, hf2, hy0, hy1, hy2, hc, hf, hz0, hz1, hz2]) rfl ⟨_, _, rfl, ?_, ?_, hap, ?_⟩
    · exact ((((ho1'.far (by show _ + 1 + 1 < _; omega) _).far (by show _ + 1 < _; omega) _).far (by show _ + 1 < _; omega) _)).more (by omega)
    · exact ((((ho2.far (by show _ + 1 + 1 < _; omega) _).far (by show _ + 1 < _; omega) _).far (by show _ + 1 < _; omega) _)).more (by omega)
    · refine below_set (by show B ≤ _ + 1; omega) (below_set (by show B ≤ _ + 1; omega) (below_set (by show B ≤ _ + 1 + 1; omega) (below_then hb2 (by show B ≤ _; simp; omega) (below_set (by show B ≤ _ + 1 + 1; omega) (below_then hb1 (by show B ≤ _; simp; omega) ?_)))))
      repeat (first | exact Below.refl _ _ | refine below_alloc hB ?_)


set_option maxHeartbeats 400000 in
theorem eqAnswer (A1 A2 A3 A4 : Option Addr) (n1 n2 n3 n4 c1 c2 c3 c4 : Nat) (x1 x2 x3 x4 : List Int) (w : World) (B : Nat) (hB : B ≤ w.heap.size) (h1 : RI w A1 n1 c1 x1) (h2 : RI w A2 n2 c2 x2) (h3 : RI w A3 n3 c3 x3) (h4 : RI w A4 n4 c4 x4) :
    Calls Tryd.prog 16 #[.agg #[.slice A1 n1 c1, .slice A2 n2 c2], .agg #[.slice A3 n3 c3, .slice A4 n4 c4]] w fun e w' => e = .returned (.bool (eqL x1 x3 && eqL x2 x4)) ∧ Below B w w' := by
  by_cases e1 : eqL x1 x3 = true
  · by_cases e2 : eqL x2 x4 = true
    · have E := Lib.hid (show (eqL x1 x3 && eqL x2 x4) = true by rw [e1, e2]; rfl)
      go_enter Tryd.func16, Tryd.ntmps16
      go_wp2_with fail
      refine (eqInts _ _ _ _ _ _ _ _ _ (h1.keep (keeps_below ?_)) (h3.keep (keeps_below ?_))).mono ?_
      · repeat (first | exact Below.refl _ _ | refine below_alloc (Nat.le_refl _) ?_)
      · repeat (first | exact Below.refl _ _ | refine below_alloc (Nat.le_refl _) ?_)
      rintro e w1 ⟨rfl, q, rfl⟩
      go_wp2_with fail
      refine (eqInts _ _ _ _ _ _ _ _ _ (h2.keep (keeps_below ?_)) (h4.keep (keeps_below ?_))).mono ?_
      · repeat (first | exact Below.refl _ _ | refine below_drewN ?_ _ | refine below_alloc (Nat.le_refl _) ?_)
      · repeat (first | exact Below.refl _ _ | refine below_drewN ?_ _ | refine below_alloc (Nat.le_refl _) ?_)
      rintro e w2 ⟨rfl, q2, rfl⟩
      go_wp2
      go_ret
      refine ⟨ret_b E.out.symm, ?_⟩
      repeat (first | exact Below.refl _ _ | refine below_drewN ?_ _ | refine below_alloc hB ?_)
    · replace e2 : eqL x2 x4 = false := by simpa using e2
      have E := Lib.hid (show (eqL x1 x3 && eqL x2 x4) = false by rw [e1, e2]; rfl)
      go_enter Tryd.func16, Tryd.ntmps16
      go_wp2_with fail
      refine (eqInts _ _ _ _ _ _ _ _ _ (h1.keep (keeps_below ?_)) (h3.keep (keeps_below ?_))).mono ?_
      · repeat (first | exact Below.refl _ _ | refine below_alloc (Nat.le_refl _) ?_)
      · repeat (first | exact Below.refl _ _ | refine below_alloc (Nat.le_refl _) ?_)
      rintro e w1 ⟨rfl, q, rfl⟩
      go_wp2_with fail
      refine (eqInts _ _ _ _ _ _ _ _ _ (h2.keep (keeps_below ?_)) (h4.keep (keeps_below ?_))).mono ?_
      · repeat (first | exact Below.refl _ _ | refine below_drewN ?_ _ | refine below_alloc (Nat.le_refl _) ?_)
      · repeat (first | exact Below.refl _ _ | refine below_drewN ?_ _ | refine below_alloc (Nat.le_refl _) ?_)
      rintro e w2 ⟨rfl, q2, rfl⟩
      go_wp2
      go_ret
      refine ⟨ret_b E.out.symm, ?_⟩
      repeat (first | exact Below.refl _ _ | refine below_drewN ?_ _ | refine below_alloc hB ?_)
  · replace e1 : eqL x1 x3 = false := by simpa using e1
    have E := Lib.hid (show (eqL x1 x3 && eqL x2 x4) = false by rw [e1]; rfl)
    go_enter Tryd.func16, Tryd.ntmps16
    go_wp2_with fail
    refine (eqInts _ _ _ _ _ _ _ _ _ (h1.keep (keeps_below ?_)) (h3.keep (keeps_below ?_))).mono ?_
    · repeat (first | exact Below.refl _ _ | refine below_alloc (Nat.le_refl _) ?_)
    · repeat (first | exact Below.refl _ _ | refine below_alloc (Nat.le_refl _) ?_)
    rintro e w1 ⟨rfl, q, rfl⟩
    go_wp2
    go_ret
    refine ⟨ret_b E.out.symm, ?_⟩
    repeat (first | exact Below.refl _ _ | refine below_drewN ?_ _ | refine below_alloc hB ?_)


end Go.Proofs.YtkhkdnmpbfmmeaaDoor
