/- FnExactPairsOn: for every input the law returns true, and each argument reads as it read before. No condition. -/
import Derived.Test.YtiojggephmacpaaPairsOnF
import Derived.Test.YtiojggephmacpaaPairs4
import Derived.Test.YtiojggephmacpaaOpenP
import Derived.Test.YtiojggephmacpaaOpen
import Derived.Deep.RegionHeld3
namespace Go.Proofs.Ytiojggephmacpaa.fnExactPairsOn
open Go.ChangeShapes Go.WideShapes Go.ChangeAt Go.RowKit

set_option maxRecDepth 100000 in
set_option maxHeartbeats 1600000 in
theorem walk (A0 : Option Addr) (n0 c0 : Nat) (z0 : List PairD) (A1 : Option Addr) (n1 c1 : Nat) (z1 : List Int) (w : World) (ha0 : RPS w A0 n0 c0 z0) (ha1 : RI w A1 n1 c1 z1) :
    Calls Try.prog 5 #[.slice A0 n0 c0, .slice A1 n1 c1] w fun e w' => e = .returned (.bool true) ∧ Below w.heap.size w w' := by
  have b0 := ha0.cap; have t0 := ha0.top
  have b1 := ha1.cap; have t1 := ha1.top
  have HL1 := Lib.hid ha1.len
  by_cases hm1 : 1048576 < n1
  · go_enter Try.func5, Try.ntmps5
    go_wp2
    go_ret
    exact ⟨rfl, Below.refl _ _⟩
  replace hm1 : n1 ≤ 1048576 := by omega
  by_cases hy0 : ¬ ((szPs z0 : Nat) : Int) ≤ 1048576
  · have E0 := Lib.hid (szF_no hy0)
    have hww := Below.refl w.heap.size w
    go_enter Try.func5, Try.ntmps5
    go_wp2_with fail
    refine (szPairS _ _ _ _ _ _ _ (Nat.le_refl _) (ha0.keep (keeps_below hww)) (by omega) (by omega)).mono ?_; rintro e w1 ⟨rfl, hbw1⟩
    have zw1 := hbw1.size
    have hww1 := below_then hbw1 hww.size hww
    rw [E0.out]
    go_wp2
    go_ret
    exact ⟨rfl, hww1⟩
  have hz0 : ((szPs z0 : Nat) : Int) ≤ 1048576 := by omega
  have hm0 : szPs z0 ≤ 1048576 := by omega
  have E0 := Lib.hid (szF_yes hz0)
  clear hy0
  have hR := pairsOnR_tot z0 z1
  have hT := totP_sz z0
  have hww := Below.refl w.heap.size w
  go_enter Try.func5, Try.ntmps5
  go_wp2_with fail
  refine (szPairS _ _ _ _ _ _ _ (Nat.le_refl _) (ha0.keep (keeps_below hww)) (by omega) (by omega)).mono ?_; rintro e w1 ⟨rfl, hbw1⟩
  have zw1 := hbw1.size
  have hww1 := below_then hbw1 hww.size hww
  rw [E0.out]
  go_wp2_with fail
  refine (toPairS _ _ _ _ _ _ (Nat.le_refl _) (ha0.keep (keeps_below hww1)) hm0).mono ?_; rintro e w2 ⟨vy0, rfl, oy0, hbw2⟩
  obtain ⟨Ay0, cy0, rfl⟩ := oy0.form
  have zw2 := hbw2.size
  have hww2 := below_then hbw2 hww1.size hww1
  have fy0 := Far.refl w1.heap.size w2
  go_wp2_with fail
  refine (toInts _ _ _ _ _ _ (Nat.le_refl _) (ha1.keep (keeps_below hww2)) hm1).mono ?_; rintro e w3 ⟨vy1, rfl, oy1, hbw3⟩
  obtain ⟨Ay1, cy1, rfl⟩ := oy1.form
  have zw3 := hbw3.size
  have hww3 := below_then hbw3 hww2.size hww2
  replace fy0 := fy0.step hbw3
  have fy1 := Far.refl w2.heap.size w3
  go_wp2_with fail
  refine (specPairsOn _ _ _ _ _ _ _ _ _ _ (Nat.le_refl _) (oy0.hold fy0).reads (oy1.hold fy1).reads).mono ?_; rintro e w4 ⟨vr, rfl, or, hbw4⟩
  obtain ⟨Ar, cr, rfl⟩ := or.form
  have zw4 := hbw4.size
  have hww4 := below_then hbw4 hww3.size hww3
  replace fy0 := fy0.step hbw4
  replace fy1 := fy1.step hbw4
  have fr := Far.refl w3.heap.size w4
  clear oy0 fy0
  clear oy1 fy1
  go_wp2_with fail
  refine (toPairS _ _ _ _ _ _ (Nat.le_refl _) (ha0.keep (keeps_below hww4)) hm0).mono ?_; rintro e w5 ⟨vx0, rfl, ox0, hbw5⟩
  obtain ⟨Ax0, cx0, rfl⟩ := ox0.form
  have zw5 := hbw5.size
  have hww5 := below_then hbw5 hww4.size hww4
  replace fr := fr.step hbw5
  have fx0 := Far.refl w4.heap.size w5
  go_wp2_with fail
  refine (toInts _ _ _ _ _ _ (Nat.le_refl _) (ha1.keep (keeps_below hww5)) hm1).mono ?_; rintro e w6 ⟨vx1, rfl, ox1, hbw6⟩
  obtain ⟨Ax1, cx1, rfl⟩ := ox1.form
  have zw6 := hbw6.size
  have hww6 := below_then hbw6 hww5.size hww5
  replace fr := fr.step hbw6
  replace fx0 := fx0.step hbw6
  have fx1 := Far.refl w5.heap.size w6
  go_wp2_with fail
  refine (implPairsOn _ _ _ _ _ _ _ _ _ _ (Nat.le_refl _) (ox0.hold fx0).reads (ox1.hold fx1).reads).mono ?_; rintro e w7 ⟨vg, rfl, og, hbw7⟩
  obtain ⟨Ag, cg, rfl⟩ := og.form
  have zw7 := hbw7.size
  have hww7 := below_then hbw7 hww6.size hww6
  replace fr := fr.step hbw7
  replace fx0 := fx0.step hbw7
  replace fx1 := fx1.step hbw7
  have fg := Far.refl w6.heap.size w7
  go_wp2_with fail
  refine (eqPairS _ _ _ _ _ _ _ _ _ _ (Nat.le_refl _) (og.hold fg).reads (or.hold fr).reads).mono ?_; rintro e w8 ⟨rfl, hbw8⟩
  have zw8 := hbw8.size
  have hww8 := below_then hbw8 hww7.size hww7
  replace fr := fr.step hbw8
  replace fx0 := fx0.step hbw8
  replace fx1 := fx1.step hbw8
  replace fg := fg.step hbw8
  rw [eqPs_self]
  go_wp2_with fail
  refine (toPairS _ _ _ _ _ _ (Nat.le_refl _) (ha0.keep (keeps_below hww8)) hm0).mono ?_; rintro e w9 ⟨vt0, rfl, ot0, hbw9⟩
  obtain ⟨At0, ct0, rfl⟩ := ot0.form
  have zw9 := hbw9.size
  have hww9 := below_then hbw9 hww8.size hww8
  replace fr := fr.step hbw9
  replace fx0 := fx0.step hbw9
  replace fx1 := fx1.step hbw9
  replace fg := fg.step hbw9
  have ft0 := Far.refl w8.heap.size w9
  go_wp2_with fail
  refine (eqPairS _ _ _ _ _ _ _ _ _ _ (Nat.le_refl _) (ox0.hold fx0).reads (ot0.hold ft0).reads).mono ?_; rintro e w10 ⟨rfl, hbw10⟩
  have zw10 := hbw10.size
  have hww10 := below_then hbw10 hww9.size hww9
  replace fr := fr.step hbw10
  replace fx0 := fx0.step hbw10
  replace fx1 := fx1.step hbw10
  replace fg := fg.step hbw10
  replace ft0 := ft0.step hbw10
  rw [eqPs_self]
  clear ot0 ft0
  go_wp2_with fail
  refine (toInts _ _ _ _ _ _ (Nat.le_refl _) (ha1.keep (keeps_below hww10)) hm1).mono ?_; rintro e w11 ⟨vt1, rfl, ot1, hbw11⟩
  obtain ⟨At1, ct1, rfl⟩ := ot1.form
  have zw11 := hbw11.size
  have hww11 := below_then hbw11 hww10.size hww10
  replace fr := fr.step hbw11
  replace fx0 := fx0.step hbw11
  replace fx1 := fx1.step hbw11
  replace fg := fg.step hbw11
  have ft1 := Far.refl w10.heap.size w11
  go_wp2_with fail
  refine (eqInts _ _ _ _ _ _ _ _ _ (ox1.hold fx1).reads (ot1.hold ft1).reads).mono ?_; rintro e w12 ⟨rfl, hqtw12⟩
  have hbw12 := below_qt hqtw12 (Below.refl w11.heap.size w11)
  have zw12 := hbw12.size
  have hww12 := below_then hbw12 hww11.size hww11
  replace fr := fr.step hbw12
  replace fx0 := fx0.step hbw12
  replace fx1 := fx1.step hbw12
  replace fg := fg.step hbw12
  replace ft1 := ft1.step hbw12
  rw [eqL_self]
  clear ot1 ft1
  go_wp2_with fail
  refine (markPairSU _ _ _ _ (1) _ _ _ (by omega) ox0 fx0 (by omega) (by omega)).mono ?_; rintro e w13 ⟨rfl, onx0, chw13⟩
  have zw13 := chw13.size
  have blw13 : Below w4.heap.size w12 w13 := chw13.below (by omega) (fun x h => h.1)
  have hww13 := below_then blw13 (by omega) hww12
  replace fr := fr.mark chw13 (by omega)
  replace fx1 := fx1.mark chw13 (by omega)
  replace fg := fg.mark chw13 (by omega)
  clear ox0 fx0; have ox0 := onx0; have fx0 := Far.refl w4.heap.size w13
  clear ox0 fx0
  go_wp2_with fail
  refine (markIntsU _ _ _ _ (1 + (totP (z0) : Int)) _ _ _ ox1 fx1 (by omega) (by have := HL1.out; omega)).mono ?_; rintro e w14 ⟨rfl, onx1, chw14⟩
  have zw14 := chw14.size
  have blw14 : Below w5.heap.size w13 w14 := chw14.below (by omega) (fun x h => h.1)
  have hww14 := below_then blw14 (by omega) hww13
  replace fr := fr.mark chw14 (by omega)
  replace fg := fg.mark chw14 (by omega)
  clear ox1 fx1; have ox1 := onx1; have fx1 := Far.refl w5.heap.size w14
  clear ox1 fx1
  go_wp2_with fail
  refine (eqPairS _ _ _ _ _ _ _ _ _ _ (Nat.le_refl _) (og.hold fg).reads (or.hold fr).reads).mono ?_; rintro e w15 ⟨rfl, hbw15⟩
  have zw15 := hbw15.size
  have hww15 := below_then hbw15 hww14.size hww14
  replace fr := fr.step hbw15
  replace fg := fg.step hbw15
  rw [eqPs_self]
  go_wp2_with fail
  refine (markPairSU _ _ _ _ 1 _ _ _ (by omega) og fg (by omega) (by omega)).mono ?_; rintro e w16 ⟨rfl, ong, chw16⟩
  have zw16 := chw16.size
  have blw16 : Below w6.heap.size w15 w16 := chw16.below (by omega) (fun x h => h.1)
  have hww16 := below_then blw16 (by omega) hww15
  replace fr := fr.mark chw16 (by omega)
  clear og fg; have og := ong; have fg := Far.refl w6.heap.size w16
  go_wp2_with fail
  refine (heldPairS _ _ _ (pairsOnR z0 z1) 1 _ _ (Nat.le_refl _) (og.hold fg).reads (by omega) (by omega)).mono ?_; rintro e w17 ⟨rfl, hbw17⟩
  have zw17 := hbw17.size
  have hww17 := below_then hbw17 hww16.size hww16
  replace fr := fr.step hbw17
  replace fg := fg.step hbw17
  go_wp2_with fail
  refine (toPairS _ _ _ _ _ _ (Nat.le_refl _) (ha0.keep (keeps_below hww17)) hm0).mono ?_; rintro e w18 ⟨vs0, rfl, os0, hbw18⟩
  obtain ⟨As0, cs0, rfl⟩ := os0.form
  have zw18 := hbw18.size
  have hww18 := below_then hbw18 hww17.size hww17
  replace fr := fr.step hbw18
  replace fg := fg.step hbw18
  have fs0 := Far.refl w17.heap.size w18
  go_wp2_with fail
  refine (toInts _ _ _ _ _ _ (Nat.le_refl _) (ha1.keep (keeps_below hww18)) hm1).mono ?_; rintro e w19 ⟨vs1, rfl, os1, hbw19⟩
  obtain ⟨As1, cs1, rfl⟩ := os1.form
  have zw19 := hbw19.size
  have hww19 := below_then hbw19 hww18.size hww18
  replace fr := fr.step hbw19
  replace fg := fg.step hbw19
  replace fs0 := fs0.step hbw19
  have fs1 := Far.refl w18.heap.size w19
  go_wp2_with fail
  refine (implPairsOn _ _ _ _ _ _ _ _ _ _ (Nat.le_refl _) (os0.hold fs0).reads (os1.hold fs1).reads).mono ?_; rintro e w20 ⟨vh, rfl, oh, hbw20⟩
  obtain ⟨Ah, ch, rfl⟩ := oh.form
  have zw20 := hbw20.size
  have hww20 := below_then hbw20 hww19.size hww19
  replace fr := fr.step hbw20
  replace fg := fg.step hbw20
  replace fs0 := fs0.step hbw20
  replace fs1 := fs1.step hbw20
  have fh := Far.refl w19.heap.size w20
  clear os0 fs0
  clear os1 fs1
  go_wp2_with fail
  refine (eqPairS _ _ _ _ _ _ _ _ _ _ (Nat.le_refl _) (oh.hold fh).reads (or.hold fr).reads).mono ?_; rintro e w21 ⟨rfl, hbw21⟩
  have zw21 := hbw21.size
  have hww21 := below_then hbw21 hww20.size hww20
  replace fr := fr.step hbw21
  replace fg := fg.step hbw21
  replace fh := fh.step hbw21
  rw [eqPs_self]
  go_wp2_with fail
  refine (heldPairS _ _ _ (pairsOnR z0 z1) 1 _ _ (Nat.le_refl _) (og.hold fg).reads (by omega) (by omega)).mono ?_; rintro e w22 ⟨rfl, hbw22⟩
  have zw22 := hbw22.size
  have hww22 := below_then hbw22 hww21.size hww21
  replace fr := fr.step hbw22
  replace fg := fg.step hbw22
  replace fh := fh.step hbw22
  go_wp2
  go_ret
  exact ⟨rfl, hww22⟩

theorem own : ownKnob Try.prog.godebug = none := by kernel_rfl
theorem laidOut : laidOutB Try.prog = true := by kernel_rfl
set_option maxRecDepth 100000 in
theorem lifted (os : Os) (started : os.Started) (H : Type) (enc : TypeId × Value → H) :
    ReturnsInHanded {} Try.checked os 5 .any (Rows.fnExactPairsOnSpec.pre6 enc Try.prog Try.f5 Rows.fnExactPairsOnRow.domain false) (Rows.fnExactPairsOnSpec.post enc Try.prog Try.f5 false true false false) := by
  refine returnsInHanded_of_change (C := Try.checked) own started (by kernel_rfl) Try.func5
    (ChangeSpec.witness6 (enc := enc) (C := Try.checked) false ⟨#[], #[.slice none 0 0, .slice none 0 0], []⟩ 8 (by kernel_rfl) (by kernel_rfl) (by kernel_rfl) (by kernel_rfl)) ?_
  intro W base args ds gs before hval0 hW hcnd _
  have hval : ∀ (j : Nat) t v, Try.f5.params[j]? = some t → args[j]? = some v → Value.okWide Try.prog W .any base t v := hval0
  have hW' := hW
  obtain ⟨p, q, hA0, hV, rfl, hfz, hnd⟩ := hW
  have hA : DataW.TrodAll enc Try.prog W 0 (fun _ => true) true Try.f5.params.toList args.toList ds p := hA0
  rw [Try.params5] at hA hval
  obtain ⟨v0, vs0, d0, ds0, p0, q0, hargs, rfl, rfl, h0, r0⟩ := trodAll_cons hA
  obtain ⟨v1, vs1, d1, ds1, p1, q1, rfl, rfl, rfl, h1, r1⟩ := trodAll_cons r0
  obtain ⟨rfl, rfl, rfl⟩ := trodAll_nil r1
  obtain rfl : args = #[v0, v1] := by cases args; simp_all
  obtain ⟨rfl, rfl⟩ := trodVars_none hV
  have k0 := h0
  have lt0 : ∀ x ∈ p0, x.block < W.heap.size := by obtain ⟨m, hm⟩ := k0; exact DataW.trod_lt m _ _ _ hm
  obtain ⟨fuel0, hf0⟩ := h0
  obtain ⟨A0, n0, c0, rfl⟩ := okWide_slice Try.underlying51 (hval 0 51 v0 rfl rfl)
  obtain ⟨B0, m0, d0, ps0, e0, rr0⟩ := rps_of_trod Try.underlying51 Try.underlying109 (by kernel_rfl) ⟨⟨by kernel_rfl, by kernel_rfl⟩, ⟨rfl, rfl⟩, rfl, rfl⟩ Try.underlying23 Try.underlying23 Try.underlying2 (by kernel_rfl) hf0
  injection e0 with ea0 eb0 ec0
  subst ea0; subst eb0; subst ec0
  have k1 := h1
  have lt1 : ∀ x ∈ p1, x.block < W.heap.size := by obtain ⟨m, hm⟩ := k1; exact DataW.trod_lt m _ _ _ hm
  obtain ⟨a1, len1, cap1, rfl⟩ := okWide_slice Try.underlying23 (hval 1 23 v1 rfl rfl)
  obtain ⟨z1, w1⟩ : ∃ zs, RI W a1 len1 cap1 zs := by
    obtain ⟨fuel, hf⟩ := h1
    rcases open_ints Try.underlying23 Try.underlying2 (by kernel_rfl) hf with ⟨hcs, _⟩ | ⟨x, l, c, zs, hcs, _, hl, hm, hz, _, hcell, hwz⟩
    · simp [Value.cells] at hcs
      obtain ⟨rfl, rfl, rfl⟩ := hcs
      exact ⟨[], RI.of_nil⟩
    · simp [Value.cells] at hcs
      obtain ⟨rfl, rfl, rfl⟩ := hcs
      exact ⟨_, RI.of_cells hl hm (by simpa using hz) hcell⟩
  clear hA0 hval0
  refine (walk _ _ _ _ a1 len1 cap1 z1 W rr0 w1).mono fun e W' ⟨he, bel⟩ => ?_
  subst he
  exact ⟨_, rfl, _, _, _, [], _, [], hW', trodAll_mk1 (shut_bool Try.underlying4 _), (trodAll_cons_mk (Below.trod laidOut (by kernel_rfl) (of_decide_eq_true (by kernel_rfl)) k0 bel lt0) (trodAll_cons_mk (Below.trod laidOut (by kernel_rfl) (of_decide_eq_true (by kernel_rfl)) k1 bel lt1) trodAll_mk0)), rfl, bel.frame _, fun h => by cases h⟩
theorem over : Rows.fnExactPairsOnRow.holds Try.pinned (OpenSpec.ofChange Rows.fnExactPairsOnSpec) :=
  OpenClaim.holds_of_wide 5 Try.f5 rfl rfl rfl rfl rfl rfl rfl ⟨rfl, rfl, rfl, rfl, rfl⟩ rfl rfl rfl rfl rfl (by kernel_rfl) Try.func5 (by kernel_rfl)
    (of_decide_eq_true (by kernel_rfl)) (by unfold Func.isWrapper; first | (rw [if_pos (by decide +kernel)]; kernel_rfl) | (rw [if_neg (by decide +kernel)]; exact ⟨rfl, rfl⟩))
    (fun os started H enc _ => lifted os started H enc)
/-- the statement -/
theorem proved : Rows.FnExactPairsOnSaid := over
end Go.Proofs.Ytiojggephmacpaa.fnExactPairsOn

