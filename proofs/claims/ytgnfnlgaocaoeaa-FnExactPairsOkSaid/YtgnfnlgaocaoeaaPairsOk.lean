/- FnExactPairsOk: for every input the law returns true, and each argument reads as it read before. No condition. -/
import Derived.Test.YtgnfnlgaocaoeaaPairs3
import Derived.Test.YtgnfnlgaocaoeaaOpenP
namespace Go.Proofs.Ytgnfnlgaocaoeaa.fnExactPairsOk
open Go.ChangeShapes Go.WideShapes Go.ChangeAt Go.RowKit

set_option maxHeartbeats 400000 in
theorem walk (A : Option Addr) (n c : Nat) (ps : List PairD) (k : Int) (w : World) (ha : RPS w A n c ps) :
    Calls Try.prog 5 #[.slice A n c, .int .i64 k] w fun e w' => e = .returned (.bool true) ∧ Below w.heap.size w w' := by
  have b1 := ha.cap; have b2 := ha.top
  by_cases hn : ¬ ((szPs ps : Nat) : Int) ≤ 1048576
  · have E := Lib.hid (szF_no hn)
    go_enter Try.func5, Try.ntmps5
    go_wp2_with fail
    refine (szPairS _ _ _ _ _ _ _ (Nat.le_refl _) ha (by omega) (by omega)).mono ?_; rintro e w1 ⟨rfl, hb1⟩
    rw [E.out]
    go_wp2
    go_ret
    exact ⟨rfl, hb1⟩
  have hn0 : ((szPs ps : Nat) : Int) ≤ 1048576 := by omega
  have hn' : szPs ps ≤ 1048576 := by omega
  have E := Lib.hid (szF_yes hn0)
  go_enter Try.func5, Try.ntmps5
  go_wp2_with fail
  refine (szPairS _ _ _ _ _ _ _ (Nat.le_refl _) ha (by omega) (by omega)).mono ?_; rintro e w1 ⟨rfl, hb1⟩
  rw [E.out]
  go_wp2_with fail
  refine (toPairS _ _ _ _ _ _ (Nat.le_refl _) (ha.keep (keeps_below hb1)) hn').mono ?_; rintro e w2 ⟨v2, rfl, ho2, hb2⟩
  obtain ⟨A2, c2, rfl⟩ := ho2.form
  have hw2 := below_then hb2 hb1.size hb1
  go_wp2_with fail
  refine (specPairsOk _ _ _ _ _ _ ho2.reads).mono ?_; rintro e w3 ⟨rfl, hq3⟩
  have hw3 := below_qt hq3 hw2
  go_wp2_with fail
  refine (toPairS _ _ _ _ _ _ (Nat.le_refl _) (ha.keep (keeps_below hw3)) hn').mono ?_; rintro e w4 ⟨v4, rfl, ho4, hb4⟩
  obtain ⟨A4, c4, rfl⟩ := ho4.form
  have hw4 := below_then hb4 hw3.size hw3
  go_wp2_with fail
  refine (implPairsOk _ _ _ _ _ _ _ (Nat.le_refl _) ho4.reads).mono ?_; rintro e w5 ⟨rfl, hb5⟩
  have hw5 := below_then hb5 hw4.size hw4
  have ho5 := ho4.below hb5
  have hne : ((inR k 0 256 && pairsB ps k) != (inR k 0 256 && pairsB ps k)) = false := by simp
  go_wp2_with fail
  refine (toPairS _ _ _ _ _ _ (Nat.le_refl _) (ha.keep (keeps_below hw5)) hn').mono ?_; rintro e w6 ⟨v6, rfl, ho6, hb6⟩
  obtain ⟨A6, c6, rfl⟩ := ho6.form
  have hw6 := below_then hb6 hw5.size hw5
  have ho5' := ho5.below hb6
  go_wp2_with fail
  refine (eqPairS _ _ _ _ _ _ _ _ _ _ (Nat.le_refl _) ho5'.reads ho6.reads).mono ?_; rintro e w7 ⟨rfl, hb7⟩
  have heq : eqPs ps ps = true := by simp [eqPs]
  rw [heq]
  go_wp2
  go_ret
  exact ⟨rfl, below_then hb7 hw6.size hw6⟩
theorem own : ownKnob Try.prog.godebug = none := by kernel_rfl
theorem laidOut : laidOutB Try.prog = true := by kernel_rfl
set_option maxRecDepth 100000 in
theorem lifted (os : Os) (started : os.Started) (H : Type) (enc : TypeId × Value → H) :
    ReturnsInHanded {} Try.checked os 5 .any (Rows.fnExactPairsOkSpec.pre6 enc Try.prog Try.f5 Rows.fnExactPairsOkRow.domain false) (Rows.fnExactPairsOkSpec.post enc Try.prog Try.f5 false true false false) := by
  refine returnsInHanded_of_change (C := Try.checked) own started (by kernel_rfl) Try.func5
    (ChangeSpec.witness6 (enc := enc) (C := Try.checked) false ⟨#[], #[.slice none 0 0, .int .i64 0], []⟩ 8 (by kernel_rfl) (by kernel_rfl) (by kernel_rfl) (by kernel_rfl)) ?_
  intro W base args ds gs before hval0 hW hcnd _
  have hval : ∀ (j : Nat) t v, Try.f5.params[j]? = some t → args[j]? = some v → Value.okWide Try.prog W .any base t v := hval0
  have hW' := hW
  obtain ⟨p, q, hA0, hV, rfl, hfz, hnd⟩ := hW
  have hA : DataW.TrodAll enc Try.prog W 0 (fun _ => true) true Try.f5.params.toList args.toList ds p := hA0
  rw [Try.params5] at hA hval
  obtain ⟨v0, vs0, d0, ds0, p0, q0, hargs, rfl, rfl, h0, r0⟩ := trodAll_cons hA
  obtain ⟨v1, vs1, d1, ds1, p1, q1, rfl, rfl, rfl, h1, r1⟩ := trodAll_cons r0
  obtain ⟨rfl, rfl, rfl⟩ := trodAll_nil r1
  obtain rfl : args = #[v0, v1] := by cases args; simp_all
  obtain ⟨rfl, rfl⟩ := trodVars_none hV
  have k0 := h0
  have lt0 : ∀ x ∈ p0, x.block < W.heap.size := by obtain ⟨m, hm⟩ := k0; exact DataW.trod_lt m _ _ _ hm
  obtain ⟨fuel0, hf0⟩ := h0
  obtain ⟨A0, n0, c0, rfl⟩ := okWide_slice Try.underlying34 (hval 0 34 v0 rfl rfl)
  obtain ⟨B0, m0, d0, ps0, e0, rr0⟩ := rps_of_trod Try.underlying34 Try.underlying65 (by kernel_rfl) ⟨⟨by kernel_rfl, by kernel_rfl⟩, ⟨rfl, rfl⟩, rfl, rfl⟩ Try.underlying22 Try.underlying22 Try.underlying2 (by kernel_rfl) hf0
  injection e0 with ea0 eb0 ec0
  subst ea0; subst eb0; subst ec0
  obtain ⟨a1, rfl, rfl, rfl, w1⟩ := open_int Try.underlying2 (hval 1 2 v1 rfl rfl) h1
  clear hA0 hval0
  refine (walk _ _ _ _ a1 W rr0).mono fun e W' ⟨he, bel⟩ => ?_
  subst he
  exact ⟨_, rfl, _, _, _, [], _, [], hW', trodAll_mk1 (shut_bool Try.underlying4 _), (trodAll_cons_mk (Below.trod laidOut (by kernel_rfl) (of_decide_eq_true (by kernel_rfl)) k0 bel lt0) (trodAll_cons_mk (shut_int Try.underlying2 w1) trodAll_mk0)), rfl, bel.frame _, fun h => by cases h⟩
theorem over : Rows.fnExactPairsOkRow.holds Try.pinned (OpenSpec.ofChange Rows.fnExactPairsOkSpec) :=
  OpenClaim.holds_of_wide 5 Try.f5 rfl rfl rfl rfl rfl rfl rfl ⟨rfl, rfl, rfl, rfl, rfl⟩ rfl rfl rfl rfl rfl (by kernel_rfl) Try.func5 (by kernel_rfl)
    (of_decide_eq_true (by kernel_rfl)) (by unfold Func.isWrapper; first | (rw [if_pos (by decide +kernel)]; kernel_rfl) | (rw [if_neg (by decide +kernel)]; exact ⟨rfl, rfl⟩))
    (fun os started H enc _ => lifted os started H enc)
/-- the statement -/
theorem proved : Rows.FnExactPairsOkSaid := over
end Go.Proofs.Ytgnfnlgaocaoeaa.fnExactPairsOk

