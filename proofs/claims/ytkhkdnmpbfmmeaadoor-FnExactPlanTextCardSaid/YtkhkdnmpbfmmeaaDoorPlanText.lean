/- FnExactPlanText: for every input the law returns true, and each argument reads as it read before. No condition. -/
import Derived.Test.YtkhkdnmpbfmmeaaDoorPlanT
import Derived.Test.YtkhkdnmpbfmmeaaDoorUse
import Derived.Test.YtkhkdnmpbfmmeaaDoorOpen
import Derived.Deep.RegionHeld3
import Derived.Test.YtkhkdnmpbfmmeaaDoorCard
import Derived.Test.YtkhkdnmpbfmmeaaDoorCards
import Derived.Test.YtkhkdnmpbfmmeaaDoorTie
namespace Go.Proofs.YtkhkdnmpbfmmeaaDoor.fnExactPlanText
open Go.ChangeShapes Go.WideShapes Go.ChangeAt Go.RowKit

set_option maxRecDepth 100000 in
set_option maxHeartbeats 1600000 in
theorem walk (A0 : Option Addr) (n0 c0 : Nat) (z0 : List Int) (w : World) (ha0 : RI w A0 n0 c0 z0) (hT : Tab w) :
    Calls Tryd.prog 4 #[.slice A0 n0 c0] w fun e w' => e = .returned (.bool true) ∧ Below w.heap.size w w' := by
  have b0 := ha0.cap; have t0 := ha0.top
  have HL0 := Lib.hid ha0.len
  by_cases hm0 : 1048576 < n0
  · go_enter Tryd.func4, Tryd.ntmps4
    go_wp2
    go_ret
    exact ⟨rfl, Below.refl _ _⟩
  replace hm0 : n0 ≤ 1048576 := by omega
  have hww := Below.refl w.heap.size w
  go_enter Tryd.func4, Tryd.ntmps4
  go_wp2_with fail
  refine (toInts _ _ _ _ _ _ (Nat.le_refl _) (ha0.keep (keeps_below hww)) hm0).mono ?_; rintro e w1 ⟨vy0, rfl, oy0, hbw1⟩
  obtain ⟨Ay0, cy0, rfl⟩ := oy0.form
  have zw1 := hbw1.size
  have hww1 := below_then hbw1 hww.size hww
  have fy0 := Far.refl w.heap.size w1
  go_wp2_with fail
  refine (specPlanText _ _ _ _ _ _ (Nat.le_refl _) (oy0.hold fy0).reads).mono ?_; rintro e w2 ⟨rfl, hbw2⟩
  have zw2 := hbw2.size
  have hww2 := below_then hbw2 hww1.size hww1
  replace fy0 := fy0.step hbw2
  clear oy0 fy0
  go_wp2_with fail
  refine (toInts _ _ _ _ _ _ (Nat.le_refl _) (ha0.keep (keeps_below hww2)) hm0).mono ?_; rintro e w3 ⟨vx0, rfl, ox0, hbw3⟩
  obtain ⟨Ax0, cx0, rfl⟩ := ox0.form
  have zw3 := hbw3.size
  have hww3 := below_then hbw3 hww2.size hww2
  have fx0 := Far.refl w2.heap.size w3
  go_wp2_with fail
  refine (implPlanText _ _ _ _ _ _ (Nat.le_refl _) (hT.below hww3) (ox0.hold fx0).reads).mono ?_; rintro e w4 ⟨rfl, hbw4⟩
  have zw4 := hbw4.size
  have hww4 := below_then hbw4 hww3.size hww3
  replace fx0 := fx0.step hbw4
  go_wp2_with fail
  refine (toInts _ _ _ _ _ _ (Nat.le_refl _) (ha0.keep (keeps_below hww4)) hm0).mono ?_; rintro e w5 ⟨vt0, rfl, ot0, hbw5⟩
  obtain ⟨At0, ct0, rfl⟩ := ot0.form
  have zw5 := hbw5.size
  have hww5 := below_then hbw5 hww4.size hww4
  replace fx0 := fx0.step hbw5
  have ft0 := Far.refl w4.heap.size w5
  go_wp2_with fail
  refine (eqInts _ _ _ _ _ _ _ _ _ (ox0.hold fx0).reads (ot0.hold ft0).reads).mono ?_; rintro e w6 ⟨rfl, hqtw6⟩
  have hbw6 := below_qt hqtw6 (Below.refl w5.heap.size w5)
  have zw6 := hbw6.size
  have hww6 := below_then hbw6 hww5.size hww5
  replace fx0 := fx0.step hbw6
  replace ft0 := ft0.step hbw6
  rw [eqL_self]
  clear ot0 ft0
  go_wp2
  go_ret
  exact ⟨rfl, hww6⟩

theorem own : ownKnob Tryd.prog.godebug = none := by kernel_rfl
theorem laidOut : laidOutB Tryd.prog = true := by kernel_rfl
set_option maxRecDepth 100000 in
theorem lifted (os : Os) (started : os.Started) (H : Type) (enc : TypeId × Value → H) :
    ReturnsInHanded {} Tryd.checked os 4 .any (fun w args => (Rows.fnExactPlanTextSpec.pre enc Tryd.prog Tryd.f4 Rows.fnExactPlanTextRow.domain false w args ∧ laidMetH Tryd.prog Rows.fnExactPlanTextRow.laid w) ∧ sizedMet enc Tryd.prog Tryd.f4 (OpenSpec.ofChange Rows.fnExactPlanTextSpec) false w args) (Rows.fnExactPlanTextSpec.post enc Tryd.prog Tryd.f4 false true false false) := by
  refine returns_laid (C := Tryd.checked) own started (by kernel_rfl) Tryd.func4
    (ChangeSpec.witness_shaped (enc := enc) (C := Tryd.checked) (os := os) (X := fun w _ => laidMetH Tryd.prog Rows.fnExactPlanTextRow.laid w) false (World.laidAll Tryd.prog os Rows.fnExactPlanTextRow.laid) #[.slice none 0 0] 8 (World.laidAll_os _ _ _)
      (World.shaped_of_ZipB (by kernel_rfl) (by kernel_rfl)) (by kernel_rfl) (by kernel_rfl) (by kernel_rfl)
      (by rw [MakeChecks.laidMetH_plain _ _ _ (by kernel_rfl)]; exact laidMet_laidAll _ (by kernel_rfl) (by kernel_rfl))) ?_
  intro W base args ds gs before hval0 hW hL hsh
  have hval : ∀ (j : Nat) t v, Tryd.f4.params[j]? = some t → args[j]? = some v → Value.okWide Tryd.prog W .any base t v := hval0
  have hW' := hW
  obtain ⟨p, q, hA0, hV, rfl, hfz, hnd⟩ := hW
  have hA : DataW.TrodAll enc Tryd.prog W 0 (fun _ => true) true Tryd.f4.params.toList args.toList ds p := hA0
  rw [Tryd.params4] at hA hval
  obtain ⟨v0, vs0, d0, ds0, p0, q0, hargs, rfl, rfl, h0, r0⟩ := trodAll_cons hA
  obtain ⟨rfl, rfl, rfl⟩ := trodAll_nil r0
  obtain rfl : args = #[v0] := by cases args; simp_all
  obtain ⟨rfl, rfl⟩ := trodVars_none hV
  have k0 := h0
  have lt0 : ∀ x ∈ p0, x.block < W.heap.size := by obtain ⟨m, hm⟩ := k0; exact DataW.trod_lt m _ _ _ hm
  obtain ⟨a0, len0, cap0, rfl⟩ := okWide_slice Tryd.underlying22 (hval 0 22 v0 rfl rfl)
  obtain ⟨z0, w0⟩ : ∃ zs, RI W a0 len0 cap0 zs := by
    obtain ⟨fuel, hf⟩ := h0
    rcases open_ints Tryd.underlying22 Tryd.underlying2 (by kernel_rfl) hf with ⟨hcs, _⟩ | ⟨x, l, c, zs, hcs, _, hl, hm, hz, _, hcell, hwz⟩
    · simp [Value.cells] at hcs
      obtain ⟨rfl, rfl, rfl⟩ := hcs
      exact ⟨[], RI.of_nil⟩
    · simp [Value.cells] at hcs
      obtain ⟨rfl, rfl, rfl⟩ := hcs
      exact ⟨_, RI.of_cells hl hm (by simpa using hz) hcell⟩
  clear hA0 hval0
  have fT := tab_of (by kernel_rfl) hL (by kernel_rfl)
  refine (walk a0 len0 cap0 z0 W w0 fT).mono fun e W' ⟨he, bel⟩ => ?_
  subst he
  exact ⟨_, rfl, _, _, _, [], _, [], hW', trodAll_mk1 (shut_bool Tryd.underlying4 _), (trodAll_cons_mk (Below.trod laidOut (by kernel_rfl) (of_decide_eq_true (by kernel_rfl)) k0 bel lt0) trodAll_mk0), rfl, bel.frame _, fun h => by cases h⟩
theorem over : Rows.fnExactPlanTextRow.holds Tryd.pinned (OpenSpec.ofChange Rows.fnExactPlanTextSpec) :=
  OpenClaim.holds_of_wide 4 Tryd.f4 rfl rfl rfl rfl rfl rfl rfl ⟨rfl, rfl, rfl, rfl, rfl⟩ rfl rfl rfl rfl rfl (by kernel_rfl) Tryd.func4 (by kernel_rfl)
    (of_decide_eq_true (by kernel_rfl)) (by unfold Func.isWrapper; first | (rw [if_pos (by decide +kernel)]; kernel_rfl) | (rw [if_neg (by decide +kernel)]; exact ⟨rfl, rfl⟩))
    (fun os started H enc _ => lifted os started H enc)
/-- no parameter wants a stand-in; the program's own looks are off -/
theorem plain (f : FuncId) (fn : Func) (hf : Tryd.pinned.checked.prog.funcNamed "loop.example/g00869/laws.FnExactPlanText" = some f) (hfn : Tryd.pinned.checked.prog.funcs[f]? = some fn) :
    false = Tryd.pinned.checked.prog.looks [] ∧ ∀ (j : Nat) t, fn.params[j]? = some t → Tryd.pinned.checked.prog.wantsStandIn t = false := by
  obtain rfl : f = 4 := Option.some.inj ((show Tryd.prog.funcNamed "loop.example/g00869/laws.FnExactPlanText" = some 4 by kernel_rfl).symm.trans hf) |>.symm
  obtain rfl : fn = Tryd.f4 := (Option.some.inj (Tryd.func4.symm.trans hfn)).symm
  refine ⟨by kernel_rfl, fun j t ht => ?_⟩
  rw [Tryd.params4] at ht
  have hm := Array.mem_of_getElem? ht
  simp only [Array.mem_def, List.mem_cons, List.mem_nil_iff, or_false] at hm
  subst hm
  exact (show Tryd.prog.wantsStandIn 22 = false by kernel_rfl)
/-- the statement -/
theorem proved : Rows.FnExactPlanTextCardSaid :=
  Claim7.holds_tied_plain_at .later [] _ _ _ _ over (fun _ h => by cases h) (by kernel_rfl) (fun _ h => by cases h) fnExactPlanText_row_tie rfl ⟨rfl, rfl⟩ (by kernel_rfl) rfl plain (by kernel_rfl)
end Go.Proofs.YtkhkdnmpbfmmeaaDoor.fnExactPlanText

