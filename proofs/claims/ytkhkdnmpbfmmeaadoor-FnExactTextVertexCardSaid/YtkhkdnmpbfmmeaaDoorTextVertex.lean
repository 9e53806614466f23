/- FnExactTextVertex: for every input the law returns true, and each argument reads as it read before. No condition. -/
import Derived.Test.YtkhkdnmpbfmmeaaDoorTvx
import Derived.Test.YtkhkdnmpbfmmeaaDoorUse
import Derived.Test.YtkhkdnmpbfmmeaaDoorOpen
import Derived.Deep.RegionHeld3
import Derived.Test.YtkhkdnmpbfmmeaaDoorCard
import Derived.Test.YtkhkdnmpbfmmeaaDoorCards
import Derived.Test.YtkhkdnmpbfmmeaaDoorTie
namespace Go.Proofs.YtkhkdnmpbfmmeaaDoor.fnExactTextVertex
open Go.ChangeShapes Go.WideShapes Go.ChangeAt Go.RowKit

set_option maxRecDepth 100000 in
set_option maxHeartbeats 1600000 in
theorem walk (z0 : ByteArray) (n : Int) (w : World)  (hP : PN w) (hM : Max w) :
    Calls Tryd.prog 6 #[.string z0, .int .i64 n] w fun e w' => e = .returned (.bool true) ∧ Below w.heap.size w w' := by
  by_cases hm0 : 1048576 < z0.size
  · go_enter Tryd.func6, Tryd.ntmps6
    go_wp2
    go_ret
    exact ⟨rfl, Below.refl _ _⟩
  replace hm0 : z0.size ≤ 1048576 := by omega
  have hR := tvX_len z0.data.toList n
  have hne0 : ((tvP z0.data.toList n) != (tvP z0.data.toList n)) = false := by simp
  have hne1 : ((tvO z0.data.toList n) != (tvO z0.data.toList n)) = false := by simp
  have hne3 : ((tvOk z0.data.toList n) != (tvOk z0.data.toList n)) = false := by simp
  have hww := Below.refl w.heap.size w
  go_enter Tryd.func6, Tryd.ntmps6
  go_wp2_with fail
  refine (specTextVertex _ _ _ _ (Nat.le_refl _)  (by omega)).mono ?_; rintro e w1 ⟨vr, rfl, or, hbw1⟩
  obtain ⟨Ar, cr, rfl⟩ := or.form
  have zw1 := hbw1.size
  have hww1 := below_then hbw1 hww.size hww
  have fr := Far.refl w.heap.size w1
  go_wp2_with fail
  refine (implTextVertex _ _ _ _ (Nat.le_refl _) (hP.keep (keeps_below hww1)) (hM.keep (keeps_below hww1))  (by omega)).mono ?_; rintro e w2 ⟨vg, rfl, og, hbw2⟩
  obtain ⟨Ag, cg, rfl⟩ := og.form
  have zw2 := hbw2.size
  have hww2 := below_then hbw2 hww1.size hww1
  replace fr := fr.step hbw2
  have fg := Far.refl w1.heap.size w2
  go_wp2_with fail
  refine (eqInts _ _ _ _ _ _ _ _ _ (og.hold fg).reads (or.hold fr).reads).mono ?_; rintro e w3 ⟨rfl, hqtw3⟩
  have hbw3 := below_qt hqtw3 (Below.refl w2.heap.size w2)
  have zw3 := hbw3.size
  have hww3 := below_then hbw3 hww2.size hww2
  replace fr := fr.step hbw3
  replace fg := fg.step hbw3
  rw [eqL_self]
  go_wp2_with fail
  refine (markIntsU _ _ _ _ 1 _ _ _ og fg (by omega) (by omega)).mono ?_; rintro e w4 ⟨rfl, ong, chw4⟩
  have zw4 := chw4.size
  have blw4 : Below w1.heap.size w3 w4 := chw4.below (by omega) (fun x h => h.1)
  have hww4 := below_then blw4 (by omega) hww3
  replace fr := fr.mark chw4 (by omega)
  clear og fg; have og := ong; have fg := Far.refl w1.heap.size w4
  go_wp2_with fail
  refine (heldInts _ _ _ 1 _ (og.hold fg).reads (by omega) (by omega)).mono ?_; rintro e w5 ⟨rfl, hqtw5⟩
  have hbw5 := below_qt hqtw5 (Below.refl w4.heap.size w4)
  have zw5 := hbw5.size
  have hww5 := below_then hbw5 hww4.size hww4
  replace fr := fr.step hbw5
  replace fg := fg.step hbw5
  go_wp2_with fail
  refine (implTextVertex _ _ _ _ (Nat.le_refl _) (hP.keep (keeps_below hww5)) (hM.keep (keeps_below hww5))  (by omega)).mono ?_; rintro e w6 ⟨vh, rfl, oh, hbw6⟩
  obtain ⟨Ah, ch, rfl⟩ := oh.form
  have zw6 := hbw6.size
  have hww6 := below_then hbw6 hww5.size hww5
  replace fr := fr.step hbw6
  replace fg := fg.step hbw6
  have fh := Far.refl w5.heap.size w6
  go_wp2_with fail
  refine (eqInts _ _ _ _ _ _ _ _ _ (oh.hold fh).reads (or.hold fr).reads).mono ?_; rintro e w7 ⟨rfl, hqtw7⟩
  have hbw7 := below_qt hqtw7 (Below.refl w6.heap.size w6)
  have zw7 := hbw7.size
  have hww7 := below_then hbw7 hww6.size hww6
  replace fr := fr.step hbw7
  replace fg := fg.step hbw7
  replace fh := fh.step hbw7
  rw [eqL_self]
  go_wp2_with fail
  refine (heldInts _ _ _ 1 _ (og.hold fg).reads (by omega) (by omega)).mono ?_; rintro e w8 ⟨rfl, hqtw8⟩
  have hbw8 := below_qt hqtw8 (Below.refl w7.heap.size w7)
  have zw8 := hbw8.size
  have hww8 := below_then hbw8 hww7.size hww7
  replace fr := fr.step hbw8
  replace fg := fg.step hbw8
  replace fh := fh.step hbw8
  go_wp2
  go_ret
  exact ⟨rfl, hww8⟩

theorem own : ownKnob Tryd.prog.godebug = none := by kernel_rfl
theorem laidOut : laidOutB Tryd.prog = true := by kernel_rfl
set_option maxRecDepth 100000 in
theorem lifted (os : Os) (started : os.Started) (H : Type) (enc : TypeId × Value → H) :
    ReturnsInHanded {} Tryd.checked os 6 .any (fun w args => (Rows.fnExactTextVertexSpec.pre enc Tryd.prog Tryd.f6 Rows.fnExactTextVertexRow.domain false w args ∧ laidMetH Tryd.prog Rows.fnExactTextVertexRow.laid w) ∧ sizedMet enc Tryd.prog Tryd.f6 (OpenSpec.ofChange Rows.fnExactTextVertexSpec) false w args) (Rows.fnExactTextVertexSpec.post enc Tryd.prog Tryd.f6 false true false false) := by
  refine returns_laid (C := Tryd.checked) own started (by kernel_rfl) Tryd.func6
    (ChangeSpec.witness_shaped (enc := enc) (C := Tryd.checked) (os := os) (X := fun w _ => laidMetH Tryd.prog Rows.fnExactTextVertexRow.laid w) false (World.laidAll Tryd.prog os Rows.fnExactTextVertexRow.laid) #[.string ⟨#[]⟩, .int .i64 0] 8 (World.laidAll_os _ _ _)
      (World.shaped_of_ZipB (by kernel_rfl) (by kernel_rfl)) (by kernel_rfl) (by kernel_rfl) (by kernel_rfl)
      (by rw [MakeChecks.laidMetH_plain _ _ _ (by kernel_rfl)]; exact laidMet_laidAll _ (by kernel_rfl) (by kernel_rfl))) ?_
  intro W base args ds gs before hval0 hW hL hsh
  have hval : ∀ (j : Nat) t v, Tryd.f6.params[j]? = some t → args[j]? = some v → Value.okWide Tryd.prog W .any base t v := hval0
  have hW' := hW
  obtain ⟨p, q, hA0, hV, rfl, hfz, hnd⟩ := hW
  have hA : DataW.TrodAll enc Tryd.prog W 0 (fun _ => true) true Tryd.f6.params.toList args.toList ds p := hA0
  rw [Tryd.params6] at hA hval
  obtain ⟨v0, vs0, d0, ds0, p0, q0, hargs, rfl, rfl, h0, r0⟩ := trodAll_cons hA
  obtain ⟨v1, vs1, d1, ds1, p1, q1, rfl, rfl, rfl, h1, r1⟩ := trodAll_cons r0
  obtain ⟨rfl, rfl, rfl⟩ := trodAll_nil r1
  obtain rfl : args = #[v0, v1] := by cases args; simp_all
  obtain ⟨g1, rfl⟩ := names_one hV
  obtain ⟨a0, rfl, rfl, rfl, ws0⟩ := Go.ChangeMaps.open_string Tryd.underlying9 (hval 0 9 v0 rfl rfl) h0
  obtain ⟨a1, rfl, rfl, rfl, w1⟩ := open_int Tryd.underlying2 (hval 1 2 v1 rfl rfl) h1
  clear hA0 hval0
  have fP := names_of (by kernel_rfl) hL (by kernel_rfl)
  have fM := max_of hsh
  refine (walk a0 a1 W fP fM).mono fun e W' ⟨he, bel⟩ => ?_
  subst he
  exact ⟨_, rfl, _, _, _, [], _, _, hW', trodAll_mk1 (shut_bool Tryd.underlying4 _), (trodAll_cons_mk (Go.ChangeMaps.shut_string Tryd.underlying9 ws0) (trodAll_cons_mk (shut_int Tryd.underlying2 w1) trodAll_mk0)), names_stay hV bel, bel.frame _, fun h => by cases h⟩
theorem over : Rows.fnExactTextVertexRow.holds Tryd.pinned (OpenSpec.ofChange Rows.fnExactTextVertexSpec) :=
  OpenClaim.holds_of_wide 6 Tryd.f6 rfl rfl rfl rfl rfl rfl rfl ⟨rfl, rfl, rfl, rfl, rfl⟩ rfl rfl rfl rfl rfl (by kernel_rfl) Tryd.func6 (by kernel_rfl)
    (of_decide_eq_true (by kernel_rfl)) (by unfold Func.isWrapper; first | (rw [if_pos (by decide +kernel)]; kernel_rfl) | (rw [if_neg (by decide +kernel)]; exact ⟨rfl, rfl⟩))
    (fun os started H enc _ => lifted os started H enc)
/-- no parameter wants a stand-in; the program's own looks are off -/
theorem plain (f : FuncId) (fn : Func) (hf : Tryd.pinned.checked.prog.funcNamed "loop.example/g00869/laws.FnExactTextVertex" = some f) (hfn : Tryd.pinned.checked.prog.funcs[f]? = some fn) :
    false = Tryd.pinned.checked.prog.looks [] ∧ ∀ (j : Nat) t, fn.params[j]? = some t → Tryd.pinned.checked.prog.wantsStandIn t = false := by
  obtain rfl : f = 6 := Option.some.inj ((show Tryd.prog.funcNamed "loop.example/g00869/laws.FnExactTextVertex" = some 6 by kernel_rfl).symm.trans hf) |>.symm
  obtain rfl : fn = Tryd.f6 := (Option.some.inj (Tryd.func6.symm.trans hfn)).symm
  refine ⟨by kernel_rfl, fun j t ht => ?_⟩
  rw [Tryd.params6] at ht
  have hm := Array.mem_of_getElem? ht
  simp only [Array.mem_def, List.mem_cons, List.mem_nil_iff, or_false] at hm
  rcases hm with rfl | rfl
  · exact (show Tryd.prog.wantsStandIn 9 = false by kernel_rfl)
  · exact (show Tryd.prog.wantsStandIn 2 = false by kernel_rfl)
/-- the statement -/
theorem proved : Rows.FnExactTextVertexCardSaid :=
  Claim7.holds_tied_plain_at .later [] _ _ _ _ over (fun _ h => by cases h) (by kernel_rfl) (fun _ h => by cases h) fnExactTextVertex_row_tie rfl ⟨rfl, rfl⟩ (by kernel_rfl) rfl plain (by kernel_rfl)
end Go.Proofs.YtkhkdnmpbfmmeaaDoor.fnExactTextVertex

