/- Structs of two []int64 fields: how they read, rows of the call's own. -/
import Derived.Test.YtefjhkcafcchlaaFn4
import Derived.Test.YtefjhkcafcchlaaUse
namespace Go.Proofs.Ytefjhkcafcchlaa
open Go.RowKit

abbrev TwoD := List Int × List Int
def RTv (w : World) (s0 s1 : Value) (z : TwoD) : Prop := RIv w s0 z.1 ∧ RIv w s1 z.2
def OT (w : World) (lo : Nat) (s0 s1 : Value) (z : TwoD) : Prop := OI 2 w lo s0 z.1 ∧ OI 2 w lo s1 z.2 ∧ Apart s0 s1
section
variable {w w' wb : World} {lo lo' : Nat} {s0 s1 : Value} {z : TwoD} {A0 A1 : Option Addr} {n0 c0 n1 c1 : Nat}
theorem RTv.keep (h : RTv w s0 s1 z) (k : Keeps w w') : RTv w' s0 s1 z := ⟨h.1.keep k, h.2.keep k⟩
theorem RTv.form (h : RTv w s0 s1 z) : ∃ A0 n0 c0 A1 n1 c1, s0 = .slice A0 n0 c0 ∧ s1 = .slice A1 n1 c1 := by
  obtain ⟨⟨A, m, c, e, _⟩, A', m', c', e', _⟩ := h
  exact ⟨A, m, c, A', m', c', e, e'⟩
theorem RTv.r1 (h : RTv w (.slice A0 n0 c0) (.slice A1 n1 c1) z) : RI w A0 n0 c0 z.1 := by
  obtain ⟨⟨A, m, c, e, hr⟩, _⟩ := h
  injection e with e1 e2 e3
  subst e1; subst e2; subst e3
  exact hr
theorem RTv.r2 (h : RTv w (.slice A0 n0 c0) (.slice A1 n1 c1) z) : RI w A1 n1 c1 z.2 := by
  obtain ⟨_, A, m, c, e, hr⟩ := h
  injection e with e1 e2 e3
  subst e1; subst e2; subst e3
  exact hr
theorem RTv.of (h : RI w A0 n0 c0 z.1) (k : RI w A1 n1 c1 z.2) : RTv w (.slice A0 n0 c0) (.slice A1 n1 c1) z := ⟨⟨_, _, _, rfl, h⟩, _, _, _, rfl, k⟩
theorem OT.form (h : OT w lo s0 s1 z) : ∃ A0 c0 A1 c1, s0 = .slice A0 z.1.length c0 ∧ s1 = .slice A1 z.2.length c1 := by
  obtain ⟨A0, c0, e0⟩ := h.1.form
  obtain ⟨A1, c1, e1⟩ := h.2.1.form
  exact ⟨A0, c0, A1, c1, e0, e1⟩
theorem OT.reads (h : OT w lo s0 s1 z) : RTv w s0 s1 z := ⟨h.1.rv, h.2.1.rv⟩
theorem OT.hold (h : OT wb lo s0 s1 z) (f : Far lo wb w) : OT w lo s0 s1 z := ⟨h.1.hold f, h.2.1.hold f, h.2.2⟩
theorem OT.below (h : OT w lo s0 s1 z) (hb : Below w.heap.size w w') : OT w' lo s0 s1 z := ⟨h.1.below hb, h.2.1.below hb, h.2.2⟩
theorem OT.more (h : OT w lo s0 s1 z) (hl : lo' ≤ lo) : OT w lo' s0 s1 z := ⟨h.1.more hl, h.2.1.more hl, h.2.2⟩
theorem OT.nil (w : World) (lo : Nat) : OT w lo (.slice none 0 0) (.slice none 0 0) ([], []) := ⟨OI.nil _ _ _, OI.nil _ _ _, .inl rfl⟩
end
def szT (z : TwoD) : Nat := z.1.length + z.2.length
def totT (z : TwoD) : Nat := z.1.length + z.2.length
def eqTT (x y : TwoD) : Bool := eqL x.1 y.1 && eqL x.2 y.2
theorem eqT_self (z : TwoD) : eqTT z z = true := by simp [eqTT, eqL]
set_option maxHeartbeats 400000 in
theorem szLasso (A A' : Option Addr) (n c m d : Nat) (l : Int) (w : World) (B : Nat) (hB : B ≤ w.heap.size) (h0 : 0 ≤ l) (h1 : l ≤ 1048576) (hn : n ≤ 9223372036854775807) (hm : m ≤ 9223372036854775807) :
    Calls Try.prog 75 #[.agg #[.slice A n c, .slice A' m d], .int .i64 l] w fun e w' => e = .returned (.int .i64 (szF l (n + m))) ∧ Below B w w' := by
  by_cases ha : (n : Int) ≤ l
  · have e1 : szF l n = l - n := szF_yes ha
    have E1 := Lib.hid e1
    clear e1
    by_cases hb : (m : Int) ≤ l - n
    · have E2 := Lib.hid (szF_two ha hb)
      have E3 := Lib.hid (szF_yes hb)
      go_enter Try.func75, Try.ntmps75
      go_wp2_with fail
      refine (szInts _ _ _ _ _ h0 h1 hn).mono ?_; rintro e w' ⟨rfl, q, rfl⟩
      rw [E1.out]
      go_wp2_with fail
      refine (szInts _ _ _ _ _ (by omega) (by omega) hm).mono ?_; rintro e w' ⟨rfl, p, rfl⟩
      rw [E3.out]
      go_wp2
      go_ret
      exact ⟨ret_i E2.out.symm, below_drewN (below_alloc hB (Below.refl _ _)) _⟩
    · have E2 := Lib.hid (szF_two_no ha hb)
      have E3 := Lib.hid (szF_no hb)
      go_enter Try.func75, Try.ntmps75
      go_wp2_with fail
      refine (szInts _ _ _ _ _ h0 h1 hn).mono ?_; rintro e w' ⟨rfl, q, rfl⟩
      rw [E1.out]
      go_wp2_with fail
      refine (szInts _ _ _ _ _ (by omega) (by omega) hm).mono ?_; rintro e w' ⟨rfl, p, rfl⟩
      rw [E3.out]
      go_wp2
      go_ret
      exact ⟨ret_i E2.out.symm, below_drewN (below_alloc hB (Below.refl _ _)) _⟩
  · have E1 := Lib.hid (szF_no ha)
    have E2 := Lib.hid (szF_one_no (m := m) ha)
    go_enter Try.func75, Try.ntmps75
    go_wp2_with fail
    refine (szInts _ _ _ _ _ h0 h1 hn).mono ?_; rintro e w' ⟨rfl, q, rfl⟩
    rw [E1.out]
    go_wp2
    go_ret
    exact ⟨ret_i E2.out.symm, below_drewN (below_alloc hB (Below.refl _ _)) _⟩


set_option maxHeartbeats 400000 in
theorem toLasso (A A' : Option Addr) (n c m d : Nat) (xs ys : List Int) (w : World) (B : Nat) (hB : B ≤ w.heap.size) (ha : RI w A n c xs) (hb : RI w A' m d ys) (hn : n ≤ 1048576) (hm : m ≤ 1048576) :
    Calls Try.prog 79 #[.agg #[.slice A n c, .slice A' m d]] w fun e w' => ∃ v u, e = .returned (.agg #[v, u]) ∧ OI 2 w' B v xs ∧ OI 2 w' B u ys ∧ Apart v u ∧ Below B w w' := by
  go_enter Try.func79, Try.ntmps79
  go_wp2_with fail
  refine (toInts _ _ _ _ _ _ (Nat.le_refl _) (ha.keep (keeps_below (by repeat (first | exact Below.refl _ _ | refine below_alloc (Nat.le_refl _) ?_ | refine below_drewN ?_ _)))) hn).mono ?_; rintro e w1 ⟨v1, rfl, ho1, hb1⟩
  obtain ⟨A1, c1, rfl⟩ := ho1.form
  replace ho1 := ho1.more (lo' := w.heap.size + 3) (by simp)
  obtain ⟨hc, hf⟩ := bcell hb1
  have hz : w.heap.size < w1.heap.size ∧ w.heap.size + 1 < w1.heap.size ∧ w.heap.size + 1 + 1 < w1.heap.size := by have := hb1.size; simp at this; omega
  obtain ⟨hz0, hz1, hz2⟩ := hz
  go_wp2_with fail
  refine (toInts _ _ _ _ _ _ (Nat.le_refl _) (hb.keep (keeps_below ?_)) hm).mono ?_
  · refine below_set (by show w.heap.size ≤ w.heap.size + 1 + 1; omega) (below_then hb1 (by show w.heap.size ≤ _; simp; omega) ?_)
    repeat (first | exact Below.refl _ _ | refine below_alloc (Nat.le_refl _) ?_)
  · rintro e w2 ⟨v2, rfl, ho2, hb2⟩
    obtain ⟨A2, c2, rfl⟩ := ho2.form
    obtain ⟨hc2, hf2⟩ := bcell hb2
    have ho1' := (ho1.far (p := ⟨w.heap.size + 1 + 1, 0, none⟩) (by show w.heap.size + 1 + 1 < _; omega) (.slice A1 xs.length c1)).below hb2
    have hap : Apart (.slice A1 xs.length c1) (.slice A2 ys.length c2) := apart_lt ho1 ho2 (by simp)
    replace ho2 := ho2.more (lo' := w.heap.size + 3) (by simp; omega)
    have hy : w.heap.size < w2.heap.size ∧ w.heap.size + 1 < w2.heap.size ∧ w.heap.size + 1 + 1 < w2.heap.size := by have := hb2.size; simp at this; omega
    obtain ⟨hy0, hy1, hy2⟩ := hy
    go_wp2_with fail
    refine bodyPost_ret (v := .agg #[.slice A1 xs.length c1, .slice A2 ys.length c2]) (by simp [results, Try.results79, go_sem, hc2, hf2, hy0, hy1, hy2, hc, hf, hz0, hz1, hz2]) rfl ⟨_, _, rfl, ?_, ?_, hap, ?_⟩
    · exact ((((ho1'.far (by show _ + 1 + 1 < _; omega) _).far (by show _ + 1 < _; omega) _).far (by show _ + 1 < _; omega) _)).more (by omega)
    · exact ((((ho2.far (by show _ + 1 + 1 < _; omega) _).far (by show _ + 1 < _; omega) _).far (by show _ + 1 < _; omega) _)).more (by omega)
    · refine below_set (by show B ≤ _ + 1; omega) (below_set (by show B ≤ _ + 1; omega) (below_set (by show B ≤ _ + 1 + 1; omega) (below_then hb2 (by show B ≤ _; simp; omega) (below_set (by show B ≤ _ + 1 + 1; omega) (below_then hb1 (by show B ≤ _; simp; omega) ?_)))))
      repeat (first | exact Below.refl _ _ | refine below_alloc hB ?_)


set_option maxHeartbeats 400000 in
theorem eqLasso (A1 A2 A3 A4 : Option Addr) (n1 n2 n3 n4 c1 c2 c3 c4 : Nat) (x1 x2 x3 x4 : List Int) (w : World) (B : Nat) (hB : B ≤ w.heap.size) (h1 : RI w A1 n1 c1 x1) (h2 : RI w A2 n2 c2 x2) (h3 : RI w A3 n3 c3 x3) (h4 : RI w A4 n4 c4 x4) :
    Calls Try.prog 81 #[.agg #[.slice A1 n1 c1, .slice A2 n2 c2], .agg #[.slice A3 n3 c3, .slice A4 n4 c4]] w fun e w' => e = .returned (.bool (eqL x1 x3 && eqL x2 x4)) ∧ Below B w w' := by
  by_cases e1 : eqL x1 x3 = true
  · by_cases e2 : eqL x2 x4 = true
    · have E := Lib.hid (show (eqL x1 x3 && eqL x2 x4) = true by rw [e1, e2]; rfl)
      go_enter Try.func81, Try.ntmps81
      go_wp2_with fail
      refine (eqInts _ _ _ _ _ _ _ _ _ (h1.keep (keeps_below ?_)) (h3.keep (keeps_below ?_))).mono ?_
      · repeat (first | exact Below.refl _ _ | refine below_alloc (Nat.le_refl _) ?_)
      · repeat (first | exact Below.refl _ _ | refine below_alloc (Nat.le_refl _) ?_)
      rintro e w1 ⟨rfl, q, rfl⟩
      go_wp2_with fail
      refine (eqInts _ _ _ _ _ _ _ _ _ (h2.keep (keeps_below ?_)) (h4.keep (keeps_below ?_))).mono ?_
      · repeat (first | exact Below.refl _ _ | refine below_drewN ?_ _ | refine below_alloc (Nat.le_refl _) ?_)
      · repeat (first | exact Below.refl _ _ | refine below_drewN ?_ _ | refine below_alloc (Nat.le_refl _) ?_)
      rintro e w2 ⟨rfl, q2, rfl⟩
      go_wp2
      go_ret
      refine ⟨ret_b E.out.symm, ?_⟩
      repeat (first | exact Below.refl _ _ | refine below_drewN ?_ _ | refine below_alloc hB ?_)
    · replace e2 : eqL x2 x4 = false := by simpa using e2
      have E := Lib.hid (show (eqL x1 x3 && eqL x2 x4) = false by rw [e1, e2]; rfl)
      go_enter Try.func81, Try.ntmps81
      go_wp2_with fail
      refine (eqInts _ _ _ _ _ _ _ _ _ (h1.keep (keeps_below ?_)) (h3.keep (keeps_below ?_))).mono ?_
      · repeat (first | exact Below.refl _ _ | refine below_alloc (Nat.le_refl _) ?_)
      · repeat (first | exact Below.refl _ _ | refine below_alloc (Nat.le_refl _) ?_)
      rintro e w1 ⟨rfl, q, rfl⟩
      go_wp2_with fail
      refine (eqInts _ _ _ _ _ _ _ _ _ (h2.keep (keeps_below ?_)) (h4.keep (keeps_below ?_))).mono ?_
      · repeat (first | exact Below.refl _ _ | refine below_drewN ?_ _ | refine below_alloc (Nat.le_refl _) ?_)
      · repeat (first | exact Below.refl _ _ | refine below_drewN ?_ _ | refine below_alloc (Nat.le_refl _) ?_)
      rintro e w2 ⟨rfl, q2, rfl⟩
      go_wp2
      go_ret
      refine ⟨ret_b E.out.symm, ?_⟩
      repeat (first | exact Below.refl _ _ | refine below_drewN ?_ _ | refine below_alloc hB ?_)
  · replace e1 : eqL x1 x3 = false := by simpa using e1
    have E := Lib.hid (show (eqL x1 x3 && eqL x2 x4) = false by rw [e1]; rfl)
    go_enter Try.func81, Try.ntmps81
    go_wp2_with fail
    refine (eqInts _ _ _ _ _ _ _ _ _ (h1.keep (keeps_below ?_)) (h3.keep (keeps_below ?_))).mono ?_
    · repeat (first | exact Below.refl _ _ | refine below_alloc (Nat.le_refl _) ?_)
    · repeat (first | exact Below.refl _ _ | refine below_alloc (Nat.le_refl _) ?_)
    rintro e w1 ⟨rfl, q, rfl⟩
    go_wp2
    go_ret
    refine ⟨ret_b E.out.symm, ?_⟩
    repeat (first | exact Below.refl _ _ | refine below_drewN ?_ _ | refine below_alloc hB ?_)


theorem szLassoT (s0 s1 : Value) (z : TwoD) (l : Int) (w : World) (B : Nat) (hB : B ≤ w.heap.size) (ha : RTv w s0 s1 z) (h0 : 0 ≤ l) (h1 : l ≤ 1048576) :
    Calls Try.prog 75 #[.agg #[s0, s1], .int .i64 l] w fun e w' => e = .returned (.int .i64 (szF l (szT z : Nat))) ∧ Below B w w' := by
  obtain ⟨A0, n0, c0, A1, n1, c1, rfl, rfl⟩ := ha.form
  have r1 := ha.r1; have r2 := ha.r2
  have := r1.cap; have := r1.top; have := r2.cap; have := r2.top
  have h := szLasso A0 A1 n0 c0 n1 c1 l w B hB h0 h1 (by omega) (by omega)
  unfold szT
  rw [r1.len, r2.len]
  exact h
theorem toLassoT (s0 s1 : Value) (z : TwoD) (w : World) (B : Nat) (hB : B ≤ w.heap.size) (ha : RTv w s0 s1 z) (hn : szT z ≤ 1048576) :
    Calls Try.prog 79 #[.agg #[s0, s1]] w fun e w' => ∃ t0 t1, e = .returned (.agg #[t0, t1]) ∧ OT w' B t0 t1 z ∧ Below B w w' := by
  obtain ⟨A0, n0, c0, A1, n1, c1, rfl, rfl⟩ := ha.form
  have r1 := ha.r1; have r2 := ha.r2
  unfold szT at hn
  rw [r1.len, r2.len] at hn
  exact (toLasso _ _ _ _ _ _ z.1 z.2 _ _ hB r1 r2 (by omega) (by omega)).mono fun e w' ⟨v, u, h1, h2, h3, h4, h5⟩ => ⟨v, u, h1, ⟨h2, h3, h4⟩, h5⟩
theorem eqLassoT (s0 s1 t0 t1 : Value) (x y : TwoD) (w : World) (B : Nat) (hB : B ≤ w.heap.size) (hs : RTv w s0 s1 x) (ht : RTv w t0 t1 y) :
    Calls Try.prog 81 #[.agg #[s0, s1], .agg #[t0, t1]] w fun e w' => e = .returned (.bool (eqTT x y)) ∧ Below B w w' := by
  obtain ⟨A0, n0, c0, A1, n1, c1, rfl, rfl⟩ := hs.form
  obtain ⟨A2, n2, c2, A3, n3, c3, rfl, rfl⟩ := ht.form
  exact eqLasso _ _ _ _ _ _ _ _ _ _ _ _ x.1 x.2 y.1 y.2 _ _ hB hs.r1 hs.r2 ht.r1 ht.r2
end Go.Proofs.Ytefjhkcafcchlaa
