/- FnExactShapeOk: for every input the law returns true, and each argument reads as it read before. No condition. -/
import Derived.Test.YtgnfnlgaocaoeaaFn5
import Derived.Deep.RegionHeld3
import Derived.Deep.DeepMust
import Derived.Test.YtgnfnlgaocaoeaaOpen
namespace Go.Proofs.Ytgnfnlgaocaoeaa.fnExactShapeOk
open Go.ChangeShapes Go.WideShapes Go.ChangeAt Go.RowKit

set_option maxHeartbeats 400000 in
theorem walk (A A' : Option Addr) (n c m d : Nat) (xs ys : List Int) (w : World) (ha0 : RI w A n c xs) (hb0 : RI w A' m d ys) :
    Calls Try.prog 4 #[.agg #[.slice A n c, .slice A' m d]] w fun e w' => e = .returned (.bool true) ∧ Below w.heap.size w w' := by
  have b1 := ha0.cap; have b2 := ha0.top; have b3 := hb0.cap; have b4 := hb0.top
  have ha := ha0.keep (keeps_alloc w (.cells #[.slice A n c, .slice A' m d] 27))
  have hb := hb0.keep (keeps_alloc w (.cells #[.slice A n c, .slice A' m d] 27))
  have hbw : Below w.heap.size w (w.alloc (.cells #[.slice A n c, .slice A' m d] 27)) := below_alloc (Nat.le_refl _) (Below.refl _ _)
  by_cases hn : ¬ ((n : Int) + m ≤ 1048576)
  · have E := Lib.hid (szF_no hn)
    go_enter Try.func4, Try.ntmps4
    go_wp2_with fail
    refine (szAnswer _ _ _ _ _ _ _ _ _ (Nat.le_refl _) (by omega) (by omega) (by omega) (by omega)).mono ?_; rintro e w1 ⟨rfl, hb1⟩
    rw [E.out]
    go_wp2
    go_ret
    exact ⟨rfl, below_then hb1 (by simp) hbw⟩
  have hn' : (n : Int) + m ≤ 1048576 := by omega
  have E := Lib.hid (szF_yes hn')
  go_enter Try.func4, Try.ntmps4
  go_wp2_with fail
  refine (szAnswer _ _ _ _ _ _ _ _ _ (Nat.le_refl _) (by omega) (by omega) (by omega) (by omega)).mono ?_; rintro e w1 ⟨rfl, hb1⟩
  rw [E.out]
  have k1 : w1.cell? ⟨w.heap.size, 0, none⟩ = some (.slice A n c) ∧ w1.cell? ⟨w.heap.size, 1, none⟩ = some (.slice A' m d) := by
    rw [(bcell hb1).1 _ _ (by simp), (bcell hb1).1 _ _ (by simp)]; simp [go_sem]
  obtain ⟨k1a, k1b⟩ := k1
  have hw1 := below_then hb1 (by simp) hbw
  go_wp2_with fail
  refine (toAnswer _ _ _ _ _ _ _ _ _ _ (Nat.le_refl _) (ha0.keep (keeps_below hw1)) (hb0.keep (keeps_below hw1)) (by omega) (by omega)).mono ?_; rintro e w2 ⟨v2, u2, rfl, hv2, hu2, hap2, hb2⟩
  obtain ⟨A2, c2, rfl⟩ := hv2.form
  obtain ⟨A2', c2', rfl⟩ := hu2.form
  have hw2 := below_then hb2 hw1.size hw1
  go_wp2_with fail
  refine (specShapeOk _ _ _ _ _ _ _ _ _ _ (Nat.le_refl _) hv2.reads hu2.reads).mono ?_; rintro e w3 ⟨rfl, hb3⟩
  have hw3 := below_then hb3 hw2.size hw2
  have k3a := keeps_below hb3 _ _ (keeps_below hb2 _ _ k1a)
  have k3b := keeps_below hb3 _ _ (keeps_below hb2 _ _ k1b)
  go_wp2_with fail
  refine (toAnswer _ _ _ _ _ _ _ _ _ _ (Nat.le_refl _) (ha0.keep (keeps_below hw3)) (hb0.keep (keeps_below hw3)) (by omega) (by omega)).mono ?_; rintro e w4 ⟨v4, u4, rfl, hv4, hu4, hap4, hb4⟩
  obtain ⟨A4, c4, rfl⟩ := hv4.form
  obtain ⟨A4', c4', rfl⟩ := hu4.form
  have hw4 := below_then hb4 hw3.size hw3
  have k4a := keeps_below hb4 _ _ k3a
  have k4b := keeps_below hb4 _ _ k3b
  clear k1a k1b k3a k3b
  go_wp2_with fail
  have hW4 : Below w.heap.size w (w4.alloc (.cells #[.slice A4 xs.length c4, .slice A4' ys.length c4'] 30)) := below_alloc (Nat.le_refl _) hw4
  have k4 := keeps_alloc w4 (.cells #[.slice A4 xs.length c4, .slice A4' ys.length c4'] 30)
  refine (implShapeOk _ _ _ _ _ _ _ _ _ _ (Nat.le_refl _) (hv4.reads.keep k4) (hu4.reads.keep k4)).mono ?_; rintro e w5 ⟨rfl, hb5⟩
  have hw5 := below_then hb5 hW4.size hW4
  have K5 := k4.trans (keeps_below hb5)
  have k5a := K5 _ _ k4a
  have k5b := K5 _ _ k4b
  have k5c := keeps_below hb5 ⟨w4.heap.size, 0, none⟩ (.slice A4 xs.length c4) (by simp [go_sem])
  have k5d := keeps_below hb5 ⟨w4.heap.size, 1, none⟩ (.slice A4' ys.length c4') (by simp [go_sem])
  have rv5 := hv4.reads.keep K5
  have ru5 := hu4.reads.keep K5
  have hne : (shapeOk xs ys != shapeOk xs ys) = false := by simp
  have heq : (eqL xs xs && eqL ys ys) = true := by simp [eqL]
  go_wp2_with fail
  go_region_held3 (fun w' => w'.cell? ⟨w.heap.size, 0, none⟩ = some (.slice A n c) ∧ w'.cell? ⟨w.heap.size, 1, none⟩ = some (.slice A' m d) ∧ w'.cell? ⟨w4.heap.size, 0, none⟩ = some (.slice A4 xs.length c4) ∧ w'.cell? ⟨w4.heap.size, 1, none⟩ = some (.slice A4' ys.length c4')) (first | exact ⟨k5a, k5b, k5c, k5d⟩ | exact ⟨K6 _ _ k5a, K6 _ _ k5b, K6 _ _ k5c, K6 _ _ k5d⟩ | exact ⟨K7 _ _ k5a, K7 _ _ k5b, K7 _ _ k5c, K7 _ _ k5d⟩)
    (first
      | (go_at_call 15; go_must (refine (toAnswer A A' n c m d xs ys _ _ (Nat.le_refl _) (by exact ha0.keep (keeps_below hw5.drew)) (by exact hb0.keep (keeps_below hw5.drew)) (by omega) (by omega)).mono ?_); rintro e w6 ⟨v6, u6, rfl, hv6, hu6, hap6, hb6⟩; obtain ⟨A6, c6, rfl⟩ := hv6.form; obtain ⟨A6', c6', rfl⟩ := hu6.form; replace hb6 := below_undrew hb6; have K6 := keeps_below hb6)
      | (go_at_call 17; refine (eqAnswer _ _ _ _ _ _ _ _ _ _ _ _ _ _ _ _ _ _ (Nat.le_refl _) (rv5.keep K6) (ru5.keep K6) hv6.reads hu6.reads).mono ?_; rintro e w7 ⟨rfl, hb7⟩; have K7 := K6.trans (keeps_below hb7)))
  go_wp2
  go_ret
  exact ⟨rfl, below_then hb7 (Nat.le_trans hw5.size hb6.size) (below_then hb6 hw5.size hw5)⟩

theorem own : ownKnob Try.prog.godebug = none := by kernel_rfl
theorem laidOut : laidOutB Try.prog = true := by kernel_rfl
set_option maxRecDepth 100000 in
theorem lifted (os : Os) (started : os.Started) (H : Type) (enc : TypeId × Value → H) :
    ReturnsInHanded {} Try.checked os 4 .any (Rows.fnExactShapeOkSpec.pre6 enc Try.prog Try.f4 Rows.fnExactShapeOkRow.domain false) (Rows.fnExactShapeOkSpec.post enc Try.prog Try.f4 false true false false) := by
  refine returnsInHanded_of_change (C := Try.checked) own started (by kernel_rfl) Try.func4
    (ChangeSpec.witness6 (enc := enc) (C := Try.checked) false ⟨#[], #[.agg #[.slice none 0 0, .slice none 0 0]], []⟩ 8 (by kernel_rfl) (by kernel_rfl) (by kernel_rfl) (by kernel_rfl)) ?_
  intro W base args ds gs before hval0 hW hcnd _
  have hval : ∀ (j : Nat) t v, Try.f4.params[j]? = some t → args[j]? = some v → Value.okWide Try.prog W .any base t v := hval0
  have hW' := hW
  obtain ⟨p, q, hA0, hV, rfl, hfz, hnd⟩ := hW
  have hA : DataW.TrodAll enc Try.prog W 0 (fun _ => true) true Try.f4.params.toList args.toList ds p := hA0
  rw [Try.params4] at hA hval
  obtain ⟨v0, vs0, d0, ds0, p0, q0, hargs, rfl, rfl, h0, r0⟩ := trodAll_cons hA
  obtain ⟨rfl, rfl, rfl⟩ := trodAll_nil r0
  obtain rfl : args = #[v0] := by cases args; simp_all
  obtain ⟨rfl, rfl⟩ := trodVars_none hV
  have k0 := h0
  have lt0 : ∀ x ∈ p0, x.block < W.heap.size := by obtain ⟨m, hm⟩ := k0; exact DataW.trod_lt m _ _ _ hm
  obtain ⟨c0, e0, y0, z0, m0, rfl, rfl, rfl, hy0, hz0⟩ := Go.Joins.open_agg2 Try.underlying27 (by kernel_rfl) (by kernel_rfl) (hval 0 27 v0 rfl rfl) h0
  obtain ⟨A0a, n0a, c0a, x0a, rfl, r0a⟩ := ri_of_trod Try.underlying22 Try.underlying2 (by kernel_rfl) hy0
  obtain ⟨A0b, n0b, c0b, x0b, rfl, r0b⟩ := ri_of_trod Try.underlying22 Try.underlying2 (by kernel_rfl) hz0
  clear hA0 hval0
  refine (walk _ _ _ _ _ _ _ _ W r0a r0b).mono fun e W' ⟨he, bel⟩ => ?_
  subst he
  exact ⟨_, rfl, _, _, _, [], _, [], hW', trodAll_mk1 (shut_bool Try.underlying4 _), (trodAll_cons_mk (Below.trod laidOut (by kernel_rfl) (of_decide_eq_true (by kernel_rfl)) k0 bel lt0) trodAll_mk0), rfl, bel.frame _, fun h => by cases h⟩
theorem over : Rows.fnExactShapeOkRow.holds Try.pinned (OpenSpec.ofChange Rows.fnExactShapeOkSpec) :=
  OpenClaim.holds_of_wide 4 Try.f4 rfl rfl rfl rfl rfl rfl rfl ⟨rfl, rfl, rfl, rfl, rfl⟩ rfl rfl rfl rfl rfl (by kernel_rfl) Try.func4 (by kernel_rfl)
    (of_decide_eq_true (by kernel_rfl)) (by unfold Func.isWrapper; first | (rw [if_pos (by decide +kernel)]; kernel_rfl) | (rw [if_neg (by decide +kernel)]; exact ⟨rfl, rfl⟩))
    (fun os started H enc _ => lifted os started H enc)
/-- the statement -/
theorem proved : Rows.FnExactShapeOkSaid := over
end Go.Proofs.Ytgnfnlgaocaoeaa.fnExactShapeOk

