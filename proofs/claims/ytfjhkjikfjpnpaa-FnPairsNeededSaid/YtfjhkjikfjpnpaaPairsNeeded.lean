/- FnPairsNeeded: for every input the law returns true, and the argument reads as it read before. No condition. -/
import Derived.Test.YtfjhkjikfjpnpaaNeedP
import Derived.Test.YtfjhkjikfjpnpaaNeeded
import Derived.Test.YtfjhkjikfjpnpaaOpenY
import Derived.Test.YtfjhkjikfjpnpaaPairs4
import Derived.Deep.RegionHeld3
namespace Go.Proofs.Ytfjhkjikfjpnpaa.fnPairsNeeded
open Go.ChangeShapes Go.WideShapes Go.ChangeAt Go.RowKit

set_option maxRecDepth 100000 in
set_option maxHeartbeats 1600000 in
theorem walk (A : Option Addr) (n c : Nat) (l : List Int) (w : World) (hy : RY w A n c l) :
    Calls Try.prog 3 #[.slice A n c] w fun e w' => e = .returned (.bool true) ∧ Below w.heap.size w w' := by
  have b1 := hy.cap; have b2 := hy.top
  by_cases hb : 4096 < n
  · have E := Lib.hid (show decide (4096 < n) = true from decide_eq_true hb)
    go_enter Try.func3, Try.ntmps3
    go_wp2_with fail
    refine (big _ _ _ _ _ hy).mono ?_; rintro e w1 ⟨rfl, q1⟩
    rw [E.out]
    go_wp2
    go_ret
    exact ⟨rfl, below_qt q1 (Below.refl _ _)⟩
  have E := Lib.hid (show decide (4096 < n) = false from decide_eq_false hb)
  have hn : n ≤ 4096 := by omega
  clear hb
  go_enter Try.func3, Try.ntmps3
  go_wp2_with fail
  refine (big _ _ _ _ _ hy).mono ?_; rintro e w1 ⟨rfl, q1⟩
  rw [E.out]
  have hw1 := below_qt q1 (Below.refl w.heap.size w)
  have sz1 := hw1.size
  go_wp2_with fail
  refine (roll A n c l _ _ (hy.keep (keeps_below hw1)) hn).mono ?_; rintro e w2 ⟨b, rfl, hd2⟩
  have hw2 := below_then hd2.bel sz1 hw1
  have lo2 := hd2.lo
  have sz2 := hd2.bel.size
  have up2 := hd2.lt
  go_wp2_with fail
  refine (w6Pairs _ _ b 6 3 hd2 (by omega) (by omega) (by omega) (by omega)).mono ?_; rintro e w3 ⟨v, ps, rfl, ⟨hl, hs⟩, ho3, hd3, hc3⟩
  have hl3 : ps.length ≤ 4 := by omega
  have HS := Lib.hid hs
  clear hs
  obtain ⟨Av, cv, rfl⟩ := ho3.form
  have hw3 : Below w.heap.size w w3 := hw2.trans (hc3.below (by omega) (fun x hx => by have h3 : x = b := hx; omega))
  have sz3 := hc3.size
  go_wp2_with fail
  refine (w6Set _ _ b 6 hd3 (by omega) (by omega)).mono ?_; rintro e w4 ⟨v, met, rfl, hm4, ho4, hd4, hc4⟩
  have HM := Lib.hid hm4
  clear hm4
  obtain ⟨Am, cm, rfl⟩ := ho4.form
  have hw4 : Below w.heap.size w w4 := hw3.trans (hc4.below (by omega) (fun x hx => by have h3 : x = b := hx; omega))
  have sz4 := hc4.size
  replace ho3 := ho3.chg hc4 (fun z hz => by have h3 : z = b := hz; omega)
  have E1 := Lib.hid (show (inR 6 0 256 && pairsB (neededR ps) 6) = true by
    obtain ⟨l2, s2⟩ := neededR_sets hl3 HS.out (by omega)
    rw [pairsB_up (by omega) s2 (Int.le_refl _)]; decide)
  have E2 : (neededR ps).length ≤ ps.length := (neededR_sets hl3 HS.out (by omega)).1
  have E3 := Lib.hid (needed_same hl3 HS.out (show (6 : Int) ≤ 256 by omega) HM.out)
  have E4 := Lib.hid (show metW ps met = (((brokenR ps met).length : Int) == 0) by
    obtain ⟨h1, h2⟩ := metW_is hl3 HS.out (show (6 : Int) ≤ 256 by omega) HM.out
    rw [h1, h2, Bool.eq_iff_iff]; simp)
  clear hd2 hd3 hd4 hc3 hc4 hl
  have P4 := Far.refl w2.heap.size w4
  have M4 := Far.refl w3.heap.size w4
  go_wp2_with fail
  refine (implNeededPairs _ _ _ ps _ _ (Nat.le_refl _) ho3.reads).mono ?_; rintro e w5 ⟨v, rfl, ho5, hb5⟩
  obtain ⟨Af, cf, rfl⟩ := ho5.form
  have hw5 := below_then hb5 hw4.size hw4
  have P5 := P4.step hb5; have M5 := M4.step hb5; have F5 := Far.refl w4.heap.size w5
  have sz5 := hb5.size
  go_wp2_with fail
  refine (implBrokenBy _ _ _ _ _ _ ps met _ _ (Nat.le_refl _) (ho3.hold P5).reads (ho4.hold M5).reads).mono ?_; rintro e w6 ⟨v, rfl, ho6, hb6⟩
  obtain ⟨Ab, cb, rfl⟩ := ho6.form
  have hw6 := below_then hb6 hw5.size hw5
  have P6 := P5.step hb6; have M6 := M5.step hb6; have F6 := F5.step hb6; have B6 := Far.refl w5.heap.size w6
  have sz6 := hb6.size
  go_wp2_with fail
  refine (specPairsOk _ _ _ _ 6 _ (ho5.hold F6).reads).mono ?_; rintro e w7 ⟨rfl, q7⟩
  rw [E1.out]
  have hb7 := below_qt q7 (Below.refl w6.heap.size w6)
  have hw7 := below_then hb7 hw6.size hw6
  have P7 := P6.step hb7; have M7 := M6.step hb7; have F7 := F6.step hb7; have B7 := B6.step hb7
  have sz7 := hb7.size
  go_wp2_with fail
  refine (specBrokenBy _ _ _ _ _ _ ps met _ _ (Nat.le_refl _) (ho3.hold P7).reads (ho4.hold M7).reads).mono ?_; rintro e w8 ⟨v, rfl, ho8, hb8⟩
  obtain ⟨As, cs, rfl⟩ := ho8.form
  have hw8 := below_then hb8 hw7.size hw7
  have P8 := P7.step hb8; have M8 := M7.step hb8; have F8 := F7.step hb8; have B8 := B7.step hb8; have S8 := Far.refl w7.heap.size w8
  have sz8 := hb8.size
  go_wp2_with fail
  refine (likeInts _ _ _ _ _ _ _ _ _ (ho6.hold B8).reads (ho8.hold S8).reads).mono ?_; rintro e w9 ⟨rfl, q9⟩
  rw [eqL_self]
  have hb9 := below_qt q9 (Below.refl w8.heap.size w8)
  have hw9 := below_then hb9 hw8.size hw8
  have P9 := P8.step hb9; have M9 := M8.step hb9; have F9 := F8.step hb9
  have sz9 := hb9.size
  clear ho6 ho8 B8 B7 B6 S8
  go_wp2_with fail
  refine (implMetWell _ _ _ _ _ _ ps met _ _ (Nat.le_refl _) (ho3.hold P9).reads (ho4.hold M9).reads).mono ?_; rintro e w10 ⟨rfl, hb10⟩
  have hw10 := below_then hb10 hw9.size hw9
  have P10 := P9.step hb10; have M10 := M9.step hb10; have F10 := F9.step hb10
  rw [E4.out]
  have ES : ((((brokenR ps met).length : Int) == 0) == (((brokenR ps met).length : Int) == 0)) = true := by simp
  go_wp2_with fail
  refine (implMetWell _ _ _ _ _ _ (neededR ps) met _ _ (Nat.le_refl _) (ho5.hold F10).reads (ho4.hold M10).reads).mono ?_; rintro e w11 ⟨rfl, hb11⟩
  have hw11 := below_then hb11 hw10.size hw10
  have P11 := P10.step hb11; have M11 := M10.step hb11
  rw [E3.out, E4.out]
  go_wp2_with fail
  refine (implMetWell _ _ _ _ _ _ ps met _ _ (Nat.le_refl _) (ho3.hold P11).reads (ho4.hold M11).reads).mono ?_; rintro e w12 ⟨rfl, hb12⟩
  have hw12 := below_then hb12 hw11.size hw11
  rw [E4.out]
  go_wp2
  go_ret
  exact ⟨rfl, hw12⟩

theorem own : ownKnob Try.prog.godebug = none := by kernel_rfl
theorem laidOut : laidOutB Try.prog = true := by kernel_rfl
set_option maxRecDepth 100000 in
theorem lifted (os : Os) (started : os.Started) (H : Type) (enc : TypeId × Value → H) :
    ReturnsInHanded {} Try.checked os 3 .any (Rows.fnPairsNeededSpec.pre6 enc Try.prog Try.f3 Rows.fnPairsNeededRow.domain false) (Rows.fnPairsNeededSpec.post enc Try.prog Try.f3 false true false false) := by
  refine returnsInHanded_of_change (C := Try.checked) own started (by kernel_rfl) Try.func3
    (ChangeSpec.witness6 (enc := enc) (C := Try.checked) false ⟨#[], #[.slice none 0 0], []⟩ 8 (by kernel_rfl) (by kernel_rfl) (by kernel_rfl) (by kernel_rfl)) ?_
  intro W base args ds gs before hval0 hW hcnd _
  have hval : ∀ (j : Nat) t v, Try.f3.params[j]? = some t → args[j]? = some v → Value.okWide Try.prog W .any base t v := hval0
  have hW' := hW
  obtain ⟨p, q, hA0, hV, rfl, hfz, hnd⟩ := hW
  have hA : DataW.TrodAll enc Try.prog W 0 (fun _ => true) true Try.f3.params.toList args.toList ds p := hA0
  rw [Try.params3] at hA hval
  obtain ⟨v0, vs0, d0, ds0, p0, q0, hargs, rfl, rfl, h0, r0⟩ := trodAll_cons hA
  obtain ⟨rfl, rfl, rfl⟩ := trodAll_nil r0
  obtain rfl : args = #[v0] := by cases args; simp_all
  obtain ⟨rfl, rfl⟩ := trodVars_none hV
  have k0 := h0
  have lt0 : ∀ x ∈ p0, x.block < W.heap.size := by obtain ⟨m, hm⟩ := k0; exact DataW.trod_lt m _ _ _ hm
  obtain ⟨fuel0, hf0⟩ := h0
  obtain ⟨A0, n0, c0, rfl⟩ := okWide_slice Try.underlying22 (hval 0 22 v0 rfl rfl)
  obtain ⟨B0, m0, d0, ps0, e0, rr0⟩ := ry_of_trod (c := .slice A0 n0 c0) Try.underlying22 Try.underlying5 (by kernel_rfl) (by intro; rfl) hf0
  injection e0 with ea0 eb0 ec0
  subst ea0; subst eb0; subst ec0
  clear hA0 hval0
  refine (walk _ _ _ _ W rr0).mono fun e W' ⟨he, bel⟩ => ?_
  subst he
  exact ⟨_, rfl, _, _, _, [], _, [], hW', trodAll_mk1 (shut_bool Try.underlying4 _), (trodAll_cons_mk (Below.trod laidOut (by kernel_rfl) (of_decide_eq_true (by kernel_rfl)) k0 bel lt0) trodAll_mk0), rfl, bel.frame _, fun h => by cases h⟩
theorem over : Rows.fnPairsNeededRow.holds Try.pinned (OpenSpec.ofChange Rows.fnPairsNeededSpec) :=
  OpenClaim.holds_of_wide 3 Try.f3 rfl rfl rfl rfl rfl rfl rfl ⟨rfl, rfl, rfl, rfl, rfl⟩ rfl rfl rfl rfl rfl (by kernel_rfl) Try.func3 (by kernel_rfl)
    (of_decide_eq_true (by kernel_rfl)) (by unfold Func.isWrapper; first | (rw [if_pos (by decide +kernel)]; kernel_rfl) | (rw [if_neg (by decide +kernel)]; exact ⟨rfl, rfl⟩))
    (fun os started H enc _ => lifted os started H enc)
/-- the statement -/
theorem proved : Rows.FnPairsNeededSaid := over
end Go.Proofs.Ytfjhkjikfjpnpaa.fnPairsNeeded

