/- FnExactPlaceIn: for every input the law returns true, and each argument reads as it read before. No condition. -/
import Derived.Test.YtgnfnlgaocaoeaaPlaces3
import Derived.Test.YtgnfnlgaocaoeaaOpenQ
namespace Go.Proofs.Ytgnfnlgaocaoeaa.fnExactPlaceIn
open Go.ChangeShapes Go.WideShapes Go.ChangeAt Go.RowKit

set_option maxHeartbeats 400000 in
theorem walk (A : Option Addr) (n c : Nat) (ps : List PlaceD) (k : Int) (A' : Option Addr) (m d : Nat) (xs : List Int) (w : World) (ha : RQS w A n c ps) (hx : RI w A' m d xs) :
    Calls Try.prog 6 #[.slice A n c, .int .i64 k, .slice A' m d] w fun e w' => e = .returned (.bool true) ∧ Below w.heap.size w w' := by
  have b1 := ha.cap; have b2 := ha.top; have b3 := hx.cap; have b4 := hx.top
  by_cases hm : 1048576 < m
  · go_enter Try.func6, Try.ntmps6
    go_wp2
    go_ret
    exact ⟨rfl, Below.refl _ _⟩
  have hm' : m ≤ 1048576 := by omega
  by_cases hn : ¬ ((szQs ps : Nat) : Int) ≤ 1048576
  · have E := Lib.hid (szF_no hn)
    go_enter Try.func6, Try.ntmps6
    go_wp2_with fail
    refine (szPlaceS _ _ _ _ _ _ _ (Nat.le_refl _) ha (by omega) (by omega)).mono ?_; rintro e w1 ⟨rfl, hb1⟩
    rw [E.out]
    go_wp2
    go_ret
    exact ⟨rfl, hb1⟩
  have hn0 : ((szQs ps : Nat) : Int) ≤ 1048576 := by omega
  have hn' : szQs ps ≤ 1048576 := by omega
  have E := Lib.hid (szF_yes hn0)
  go_enter Try.func6, Try.ntmps6
  go_wp2_with fail
  refine (szPlaceS _ _ _ _ _ _ _ (Nat.le_refl _) ha (by omega) (by omega)).mono ?_; rintro e w1 ⟨rfl, hw1⟩
  rw [E.out]
  go_wp2_with fail
  refine (toPlaceS _ _ _ _ _ _ (Nat.le_refl _) (ha.keep (keeps_below hw1)) hn').mono ?_; rintro e w2 ⟨v2, rfl, ho2, hb2⟩
  obtain ⟨A2, c2, rfl⟩ := ho2.form
  have hw2 := below_then hb2 hw1.size hw1
  go_wp2_with fail
  refine (toInts _ _ _ _ _ _ (Nat.le_refl _) (hx.keep (keeps_below hw2)) hm').mono ?_; rintro e w3 ⟨v3, rfl, ho3, hb3⟩
  obtain ⟨A3, c3, rfl⟩ := ho3.form
  have hw3 := below_then hb3 hw2.size hw2
  go_wp2_with fail
  refine (specPlaceIn _ _ _ _ _ _ _ _ _ _ (ho2.below hb3).reads ho3.reads).mono ?_; rintro e w4 ⟨rfl, hq4⟩
  have hw4 := below_qt hq4 hw3
  go_wp2_with fail
  refine (toPlaceS _ _ _ _ _ _ (Nat.le_refl _) (ha.keep (keeps_below hw4)) hn').mono ?_; rintro e w5 ⟨v5, rfl, ho5, hb5⟩
  obtain ⟨A5, c5, rfl⟩ := ho5.form
  have hw5 := below_then hb5 hw4.size hw4
  go_wp2_with fail
  refine (toInts _ _ _ _ _ _ (Nat.le_refl _) (hx.keep (keeps_below hw5)) hm').mono ?_; rintro e w6 ⟨v6, rfl, ho6, hb6⟩
  obtain ⟨A6, c6, rfl⟩ := ho6.form
  have hw6 := below_then hb6 hw5.size hw5
  have ho5b := ho5.below hb6
  go_wp2_with fail
  refine (implPlaceIn _ _ _ _ _ _ _ _ _ _ _ (Nat.le_refl _) ho5b.reads ho6.reads).mono ?_; rintro e w7 ⟨rfl, hb7⟩
  have hw7 := below_then hb7 hw6.size hw6
  have ho5c := ho5b.below hb7
  have ho6b := ho6.below hb7
  have hne : (placeF ps k xs != placeF ps k xs) = false := by simp
  go_wp2_with fail
  refine (toPlaceS _ _ _ _ _ _ (Nat.le_refl _) (ha.keep (keeps_below hw7)) hn').mono ?_; rintro e w8 ⟨v8, rfl, ho8, hb8⟩
  obtain ⟨A8, c8, rfl⟩ := ho8.form
  have hw8 := below_then hb8 hw7.size hw7
  have ho6c := ho6b.below hb8
  go_wp2_with fail
  refine (eqPlaceS _ _ _ _ _ _ _ _ _ _ (Nat.le_refl _) (ho5c.below hb8).reads ho8.reads).mono ?_; rintro e w9 ⟨rfl, hb9⟩
  have hw9 := below_then hb9 hw8.size hw8
  have ho6d := ho6c.below hb9
  have heq : eqQs ps ps = true := by simp [eqQs]
  rw [heq]
  go_wp2_with fail
  refine (toInts _ _ _ _ _ _ (Nat.le_refl _) (hx.keep (keeps_below hw9)) hm').mono ?_; rintro e w10 ⟨v10, rfl, ho10, hb10⟩
  obtain ⟨A10, c10, rfl⟩ := ho10.form
  have hw10 := below_then hb10 hw9.size hw9
  go_wp2_with fail
  refine (eqInts _ _ _ _ _ _ _ _ _ (ho6d.below hb10).reads ho10.reads).mono ?_; rintro e w11 ⟨rfl, hq11⟩
  have heq2 : eqL xs xs = true := by simp [eqL]
  rw [heq2]
  go_wp2
  go_ret
  exact ⟨rfl, below_qt hq11 hw10⟩
theorem own : ownKnob Try.prog.godebug = none := by kernel_rfl
theorem laidOut : laidOutB Try.prog = true := by kernel_rfl
set_option maxRecDepth 100000 in
theorem lifted (os : Os) (started : os.Started) (H : Type) (enc : TypeId × Value → H) :
    ReturnsInHanded {} Try.checked os 6 .any (Rows.fnExactPlaceInSpec.pre6 enc Try.prog Try.f6 Rows.fnExactPlaceInRow.domain false) (Rows.fnExactPlaceInSpec.post enc Try.prog Try.f6 false true false false) := by
  refine returnsInHanded_of_change (C := Try.checked) own started (by kernel_rfl) Try.func6
    (ChangeSpec.witness6 (enc := enc) (C := Try.checked) false ⟨#[], #[.slice none 0 0, .int .i64 0, .slice none 0 0], []⟩ 8 (by kernel_rfl) (by kernel_rfl) (by kernel_rfl) (by kernel_rfl)) ?_
  intro W base args ds gs before hval0 hW hcnd _
  have hval : ∀ (j : Nat) t v, Try.f6.params[j]? = some t → args[j]? = some v → Value.okWide Try.prog W .any base t v := hval0
  have hW' := hW
  obtain ⟨p, q, hA0, hV, rfl, hfz, hnd⟩ := hW
  have hA : DataW.TrodAll enc Try.prog W 0 (fun _ => true) true Try.f6.params.toList args.toList ds p := hA0
  rw [Try.params6] at hA hval
  obtain ⟨v0, vs0, d0, ds0, p0, q0, hargs, rfl, rfl, h0, r0⟩ := trodAll_cons hA
  obtain ⟨v1, vs1, d1, ds1, p1, q1, rfl, rfl, rfl, h1, r1⟩ := trodAll_cons r0
  obtain ⟨v2, vs2, d2, ds2, p2, q2, rfl, rfl, rfl, h2, r2⟩ := trodAll_cons r1
  obtain ⟨rfl, rfl, rfl⟩ := trodAll_nil r2
  obtain rfl : args = #[v0, v1, v2] := by cases args; simp_all
  obtain ⟨rfl, rfl⟩ := trodVars_none hV
  have k0 := h0
  have lt0 : ∀ x ∈ p0, x.block < W.heap.size := by obtain ⟨m, hm⟩ := k0; exact DataW.trod_lt m _ _ _ hm
  obtain ⟨fuel0, hf0⟩ := h0
  obtain ⟨A0, n0, c0, rfl⟩ := okWide_slice Try.underlying41 (hval 0 41 v0 rfl rfl)
  obtain ⟨B0, m0, d0, ps0, e0, rr0⟩ := rqs_of_trod Try.underlying41 Try.underlying71 (by kernel_rfl) ⟨⟨by kernel_rfl, by kernel_rfl⟩, ⟨rfl, rfl⟩, rfl, rfl⟩ Try.underlying2 Try.underlying22 Try.underlying2 (by kernel_rfl) hf0
  injection e0 with ea0 eb0 ec0
  subst ea0; subst eb0; subst ec0
  obtain ⟨a1, rfl, rfl, rfl, w1⟩ := open_int Try.underlying2 (hval 1 2 v1 rfl rfl) h1
  have k2 := h2
  have lt2 : ∀ x ∈ p2, x.block < W.heap.size := by obtain ⟨m, hm⟩ := k2; exact DataW.trod_lt m _ _ _ hm
  obtain ⟨a2, len2, cap2, rfl⟩ := okWide_slice Try.underlying22 (hval 2 22 v2 rfl rfl)
  obtain ⟨z2, w2⟩ : ∃ zs, RI W a2 len2 cap2 zs := by
    obtain ⟨fuel, hf⟩ := h2
    rcases open_ints Try.underlying22 Try.underlying2 (by kernel_rfl) hf with ⟨hcs, _⟩ | ⟨x, l, c, zs, hcs, _, hl, hm, hz, _, hcell, hwz⟩
    · simp [Value.cells] at hcs
      obtain ⟨rfl, rfl, rfl⟩ := hcs
      exact ⟨[], RI.of_nil⟩
    · simp [Value.cells] at hcs
      obtain ⟨rfl, rfl, rfl⟩ := hcs
      exact ⟨_, RI.of_cells hl hm (by simpa using hz) hcell⟩
  clear hA0 hval0
  refine (walk _ _ _ _ a1 a2 len2 cap2 z2 W rr0 w2).mono fun e W' ⟨he, bel⟩ => ?_
  subst he
  exact ⟨_, rfl, _, _, _, [], _, [], hW', trodAll_mk1 (shut_bool Try.underlying4 _), (trodAll_cons_mk (Below.trod laidOut (by kernel_rfl) (of_decide_eq_true (by kernel_rfl)) k0 bel lt0) (trodAll_cons_mk (shut_int Try.underlying2 w1) (trodAll_cons_mk (Below.trod laidOut (by kernel_rfl) (of_decide_eq_true (by kernel_rfl)) k2 bel lt2) trodAll_mk0))), rfl, bel.frame _, fun h => by cases h⟩
theorem over : Rows.fnExactPlaceInRow.holds Try.pinned (OpenSpec.ofChange Rows.fnExactPlaceInSpec) :=
  OpenClaim.holds_of_wide 6 Try.f6 rfl rfl rfl rfl rfl rfl rfl ⟨rfl, rfl, rfl, rfl, rfl⟩ rfl rfl rfl rfl rfl (by kernel_rfl) Try.func6 (by kernel_rfl)
    (of_decide_eq_true (by kernel_rfl)) (by unfold Func.isWrapper; first | (rw [if_pos (by decide +kernel)]; kernel_rfl) | (rw [if_neg (by decide +kernel)]; exact ⟨rfl, rfl⟩))
    (fun os started H enc _ => lifted os started H enc)
/-- the statement -/
theorem proved : Rows.FnExactPlaceInSaid := over
end Go.Proofs.Ytgnfnlgaocaoeaa.fnExactPlaceIn

