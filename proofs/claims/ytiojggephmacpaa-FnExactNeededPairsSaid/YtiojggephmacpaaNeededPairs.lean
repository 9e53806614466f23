/- FnExactNeededPairs: for every input the law returns true, and each argument reads as it read before. No condition. -/
import Derived.Test.YtiojggephmacpaaNeeded2
import Derived.Test.YtiojggephmacpaaPairs4
import Derived.Test.YtiojggephmacpaaOpenP
import Derived.Test.YtiojggephmacpaaOpen
import Derived.Deep.RegionHeld3
namespace Go.Proofs.Ytiojggephmacpaa.fnExactNeededPairs
open Go.ChangeShapes Go.WideShapes Go.ChangeAt Go.RowKit

set_option maxRecDepth 100000 in
set_option maxHeartbeats 1600000 in
theorem walk (A0 : Option Addr) (n0 c0 : Nat) (z0 : List PairD) (w : World) (ha0 : RPS w A0 n0 c0 z0) :
    Calls Try.prog 8 #[.slice A0 n0 c0] w fun e w' => e = .returned (.bool true) ∧ Below w.heap.size w w' := by
  have b0 := ha0.cap; have t0 := ha0.top
  by_cases hy0 : ¬ ((szPs z0 : Nat) : Int) ≤ 1048576
  · have E0 := Lib.hid (szF_no hy0)
    have hww := Below.refl w.heap.size w
    go_enter Try.func8, Try.ntmps8
    go_wp2_with fail
    refine (szPairS _ _ _ _ _ _ _ (Nat.le_refl _) (ha0.keep (keeps_below hww)) (by omega) (by omega)).mono ?_; rintro e w1 ⟨rfl, hbw1⟩
    have zw1 := hbw1.size
    have hww1 := below_then hbw1 hww.size hww
    rw [E0.out]
    go_wp2
    go_ret
    exact ⟨rfl, hww1⟩
  have hz0 : ((szPs z0 : Nat) : Int) ≤ 1048576 := by omega
  have hm0 : szPs z0 ≤ 1048576 := by omega
  have E0 := Lib.hid (szF_yes hz0)
  clear hy0
  have hR := neededR_tot z0
  have hT := totP_sz z0
  have hww := Below.refl w.heap.size w
  go_enter Try.func8, Try.ntmps8
  go_wp2_with fail
  refine (szPairS _ _ _ _ _ _ _ (Nat.le_refl _) (ha0.keep (keeps_below hww)) (by omega) (by omega)).mono ?_; rintro e w1 ⟨rfl, hbw1⟩
  have zw1 := hbw1.size
  have hww1 := below_then hbw1 hww.size hww
  rw [E0.out]
  go_wp2_with fail
  refine (toPairS _ _ _ _ _ _ (Nat.le_refl _) (ha0.keep (keeps_below hww1)) hm0).mono ?_; rintro e w2 ⟨vy0, rfl, oy0, hbw2⟩
  obtain ⟨Ay0, cy0, rfl⟩ := oy0.form
  have zw2 := hbw2.size
  have hww2 := below_then hbw2 hww1.size hww1
  have fy0 := Far.refl w1.heap.size w2
  go_wp2_with fail
  refine (specNeededPairs _ _ _ _ _ _ (Nat.le_refl _) (oy0.hold fy0).reads).mono ?_; rintro e w3 ⟨vr, rfl, or, hbw3⟩
  obtain ⟨Ar, cr, rfl⟩ := or.form
  have zw3 := hbw3.size
  have hww3 := below_then hbw3 hww2.size hww2
  replace fy0 := fy0.step hbw3
  have fr := Far.refl w2.heap.size w3
  clear oy0 fy0
  go_wp2_with fail
  refine (toPairS _ _ _ _ _ _ (Nat.le_refl _) (ha0.keep (keeps_below hww3)) hm0).mono ?_; rintro e w4 ⟨vx0, rfl, ox0, hbw4⟩
  obtain ⟨Ax0, cx0, rfl⟩ := ox0.form
  have zw4 := hbw4.size
  have hww4 := below_then hbw4 hww3.size hww3
  replace fr := fr.step hbw4
  have fx0 := Far.refl w3.heap.size w4
  go_wp2_with fail
  refine (implNeededPairs _ _ _ _ _ _ (Nat.le_refl _) (ox0.hold fx0).reads).mono ?_; rintro e w5 ⟨vg, rfl, og, hbw5⟩
  obtain ⟨Ag, cg, rfl⟩ := og.form
  have zw5 := hbw5.size
  have hww5 := below_then hbw5 hww4.size hww4
  replace fr := fr.step hbw5
  replace fx0 := fx0.step hbw5
  have fg := Far.refl w4.heap.size w5
  go_wp2_with fail
  refine (eqPairS _ _ _ _ _ _ _ _ _ _ (Nat.le_refl _) (og.hold fg).reads (or.hold fr).reads).mono ?_; rintro e w6 ⟨rfl, hbw6⟩
  have zw6 := hbw6.size
  have hww6 := below_then hbw6 hww5.size hww5
  replace fr := fr.step hbw6
  replace fx0 := fx0.step hbw6
  replace fg := fg.step hbw6
  rw [eqPs_self]
  go_wp2_with fail
  refine (toPairS _ _ _ _ _ _ (Nat.le_refl _) (ha0.keep (keeps_below hww6)) hm0).mono ?_; rintro e w7 ⟨vt0, rfl, ot0, hbw7⟩
  obtain ⟨At0, ct0, rfl⟩ := ot0.form
  have zw7 := hbw7.size
  have hww7 := below_then hbw7 hww6.size hww6
  replace fr := fr.step hbw7
  replace fx0 := fx0.step hbw7
  replace fg := fg.step hbw7
  have ft0 := Far.refl w6.heap.size w7
  go_wp2_with fail
  refine (eqPairS _ _ _ _ _ _ _ _ _ _ (Nat.le_refl _) (ox0.hold fx0).reads (ot0.hold ft0).reads).mono ?_; rintro e w8 ⟨rfl, hbw8⟩
  have zw8 := hbw8.size
  have hww8 := below_then hbw8 hww7.size hww7
  replace fr := fr.step hbw8
  replace fx0 := fx0.step hbw8
  replace fg := fg.step hbw8
  replace ft0 := ft0.step hbw8
  rw [eqPs_self]
  clear ot0 ft0
  go_wp2_with fail
  refine (markPairSU _ _ _ _ (1) _ _ _ (by omega) ox0 fx0 (by omega) (by omega)).mono ?_; rintro e w9 ⟨rfl, onx0, chw9⟩
  have zw9 := chw9.size
  have blw9 : Below w3.heap.size w8 w9 := chw9.below (by omega) (fun x h => h.1)
  have hww9 := below_then blw9 (by omega) hww8
  replace fr := fr.mark chw9 (by omega)
  replace fg := fg.mark chw9 (by omega)
  clear ox0 fx0; have ox0 := onx0; have fx0 := Far.refl w3.heap.size w9
  clear ox0 fx0
  go_wp2_with fail
  refine (eqPairS _ _ _ _ _ _ _ _ _ _ (Nat.le_refl _) (og.hold fg).reads (or.hold fr).reads).mono ?_; rintro e w10 ⟨rfl, hbw10⟩
  have zw10 := hbw10.size
  have hww10 := below_then hbw10 hww9.size hww9
  replace fr := fr.step hbw10
  replace fg := fg.step hbw10
  rw [eqPs_self]
  go_wp2_with fail
  refine (markPairSU _ _ _ _ 1 _ _ _ (by omega) og fg (by omega) (by omega)).mono ?_; rintro e w11 ⟨rfl, ong, chw11⟩
  have zw11 := chw11.size
  have blw11 : Below w4.heap.size w10 w11 := chw11.below (by omega) (fun x h => h.1)
  have hww11 := below_then blw11 (by omega) hww10
  replace fr := fr.mark chw11 (by omega)
  clear og fg; have og := ong; have fg := Far.refl w4.heap.size w11
  go_wp2_with fail
  refine (heldPairS _ _ _ (neededR z0) 1 _ _ (Nat.le_refl _) (og.hold fg).reads (by omega) (by omega)).mono ?_; rintro e w12 ⟨rfl, hbw12⟩
  have zw12 := hbw12.size
  have hww12 := below_then hbw12 hww11.size hww11
  replace fr := fr.step hbw12
  replace fg := fg.step hbw12
  go_wp2_with fail
  refine (toPairS _ _ _ _ _ _ (Nat.le_refl _) (ha0.keep (keeps_below hww12)) hm0).mono ?_; rintro e w13 ⟨vs0, rfl, os0, hbw13⟩
  obtain ⟨As0, cs0, rfl⟩ := os0.form
  have zw13 := hbw13.size
  have hww13 := below_then hbw13 hww12.size hww12
  replace fr := fr.step hbw13
  replace fg := fg.step hbw13
  have fs0 := Far.refl w12.heap.size w13
  go_wp2_with fail
  refine (implNeededPairs _ _ _ _ _ _ (Nat.le_refl _) (os0.hold fs0).reads).mono ?_; rintro e w14 ⟨vh, rfl, oh, hbw14⟩
  obtain ⟨Ah, ch, rfl⟩ := oh.form
  have zw14 := hbw14.size
  have hww14 := below_then hbw14 hww13.size hww13
  replace fr := fr.step hbw14
  replace fg := fg.step hbw14
  replace fs0 := fs0.step hbw14
  have fh := Far.refl w13.heap.size w14
  clear os0 fs0
  go_wp2_with fail
  refine (eqPairS _ _ _ _ _ _ _ _ _ _ (Nat.le_refl _) (oh.hold fh).reads (or.hold fr).reads).mono ?_; rintro e w15 ⟨rfl, hbw15⟩
  have zw15 := hbw15.size
  have hww15 := below_then hbw15 hww14.size hww14
  replace fr := fr.step hbw15
  replace fg := fg.step hbw15
  replace fh := fh.step hbw15
  rw [eqPs_self]
  go_wp2_with fail
  refine (heldPairS _ _ _ (neededR z0) 1 _ _ (Nat.le_refl _) (og.hold fg).reads (by omega) (by omega)).mono ?_; rintro e w16 ⟨rfl, hbw16⟩
  have zw16 := hbw16.size
  have hww16 := below_then hbw16 hww15.size hww15
  replace fr := fr.step hbw16
  replace fg := fg.step hbw16
  replace fh := fh.step hbw16
  go_wp2
  go_ret
  exact ⟨rfl, hww16⟩

theorem own : ownKnob Try.prog.godebug = none := by kernel_rfl
theorem laidOut : laidOutB Try.prog = true := by kernel_rfl
set_option maxRecDepth 100000 in
theorem lifted (os : Os) (started : os.Started) (H : Type) (enc : TypeId × Value → H) :
    ReturnsInHanded {} Try.checked os 8 .any (Rows.fnExactNeededPairsSpec.pre6 enc Try.prog Try.f8 Rows.fnExactNeededPairsRow.domain false) (Rows.fnExactNeededPairsSpec.post enc Try.prog Try.f8 false true false false) := by
  refine returnsInHanded_of_change (C := Try.checked) own started (by kernel_rfl) Try.func8
    (ChangeSpec.witness6 (enc := enc) (C := Try.checked) false ⟨#[], #[.slice none 0 0], []⟩ 8 (by kernel_rfl) (by kernel_rfl) (by kernel_rfl) (by kernel_rfl)) ?_
  intro W base args ds gs before hval0 hW hcnd _
  have hval : ∀ (j : Nat) t v, Try.f8.params[j]? = some t → args[j]? = some v → Value.okWide Try.prog W .any base t v := hval0
  have hW' := hW
  obtain ⟨p, q, hA0, hV, rfl, hfz, hnd⟩ := hW
  have hA : DataW.TrodAll enc Try.prog W 0 (fun _ => true) true Try.f8.params.toList args.toList ds p := hA0
  rw [Try.params8] at hA hval
  obtain ⟨v0, vs0, d0, ds0, p0, q0, hargs, rfl, rfl, h0, r0⟩ := trodAll_cons hA
  obtain ⟨rfl, rfl, rfl⟩ := trodAll_nil r0
  obtain rfl : args = #[v0] := by cases args; simp_all
  obtain ⟨rfl, rfl⟩ := trodVars_none hV
  have k0 := h0
  have lt0 : ∀ x ∈ p0, x.block < W.heap.size := by obtain ⟨m, hm⟩ := k0; exact DataW.trod_lt m _ _ _ hm
  obtain ⟨fuel0, hf0⟩ := h0
  obtain ⟨A0, n0, c0, rfl⟩ := okWide_slice Try.underlying51 (hval 0 51 v0 rfl rfl)
  obtain ⟨B0, m0, d0, ps0, e0, rr0⟩ := rps_of_trod Try.underlying51 Try.underlying109 (by kernel_rfl) ⟨⟨by kernel_rfl, by kernel_rfl⟩, ⟨rfl, rfl⟩, rfl, rfl⟩ Try.underlying23 Try.underlying23 Try.underlying2 (by kernel_rfl) hf0
  injection e0 with ea0 eb0 ec0
  subst ea0; subst eb0; subst ec0
  clear hA0 hval0
  refine (walk _ _ _ _ W rr0).mono fun e W' ⟨he, bel⟩ => ?_
  subst he
  exact ⟨_, rfl, _, _, _, [], _, [], hW', trodAll_mk1 (shut_bool Try.underlying4 _), (trodAll_cons_mk (Below.trod laidOut (by kernel_rfl) (of_decide_eq_true (by kernel_rfl)) k0 bel lt0) trodAll_mk0), rfl, bel.frame _, fun h => by cases h⟩
theorem over : Rows.fnExactNeededPairsRow.holds Try.pinned (OpenSpec.ofChange Rows.fnExactNeededPairsSpec) :=
  OpenClaim.holds_of_wide 8 Try.f8 rfl rfl rfl rfl rfl rfl rfl ⟨rfl, rfl, rfl, rfl, rfl⟩ rfl rfl rfl rfl rfl (by kernel_rfl) Try.func8 (by kernel_rfl)
    (of_decide_eq_true (by kernel_rfl)) (by unfold Func.isWrapper; first | (rw [if_pos (by decide +kernel)]; kernel_rfl) | (rw [if_neg (by decide +kernel)]; exact ⟨rfl, rfl⟩))
    (fun os started H enc _ => lifted os started H enc)
/-- the statement -/
theorem proved : Rows.FnExactNeededPairsSaid := over
end Go.Proofs.Ytiojggephmacpaa.fnExactNeededPairs

