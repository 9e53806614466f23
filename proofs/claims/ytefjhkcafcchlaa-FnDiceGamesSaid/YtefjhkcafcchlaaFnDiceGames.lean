/- FnDiceGames: for every input the law returns true, and the argument reads as it read before. No condition. -/
import Derived.Test.YtefjhkcafcchlaaOpenY
import Derived.Test.YtefjhkcafcchlaaDiceS
import Derived.Test.YtefjhkcafcchlaaDiceL
import Derived.Test.YtefjhkcafcchlaaSame
namespace Go.Proofs.Ytefjhkcafcchlaa.fnDiceGames
open Go.ChangeShapes Go.WideShapes Go.ChangeAt Go.RowKit

set_option maxRecDepth 100000 in
set_option maxHeartbeats 3200000 in
theorem walk (A : Option Addr) (n c : Nat) (l : List Int) (w : World) (hy : RY w A n c l) :
    Calls Try.prog 7 #[.slice A n c] w fun e w' => e = .returned (.bool true) ∧ Below w.heap.size w w' := by
  have b1 := hy.cap; have b2 := hy.top
  by_cases hb : 4096 < n
  · have E := Lib.hid (show decide (4096 < n) = true from decide_eq_true hb)
    go_enter Try.func7, Try.ntmps7
    go_wp2_with fail
    refine (big _ _ _ _ _ hy).mono ?_; rintro e w1 ⟨rfl, q1⟩
    rw [E.out]
    go_wp2
    go_ret
    exact ⟨rfl, below_qt q1 (Below.refl _ _)⟩
  have E := Lib.hid (show decide (4096 < n) = false from decide_eq_false hb)
  have hn : n ≤ 4096 := by omega
  clear hb
  go_enter Try.func7, Try.ntmps7
  go_wp2_with fail
  refine (big _ _ _ _ _ hy).mono ?_; rintro e w1 ⟨rfl, q1⟩
  rw [E.out]
  have hw1 := below_qt q1 (Below.refl w.heap.size w)
  have sz1 := hw1.size
  go_wp2_with fail
  refine (roll A n c l _ _ (hy.keep (keeps_below hw1)) hn).mono ?_; rintro e w2 ⟨b, rfl, hd2⟩
  have hw2 := below_then hd2.bel sz1 hw1
  have lo2 := hd2.lo
  have up2 := hd2.lt
  go_wp2_with fail
  refine (below _ _ b 1000000 hd2 (by omega)).mono ?_; rintro e w3 ⟨s, rfl, hs, hd3, hc3⟩
  have hw3 : Below w.heap.size w w3 := hw2.trans (hc3.below hw2.size (fun x hx => by have h3 : x = b := hx; omega))
  go_wp2_with fail
  refine (below _ _ b 12 hd3 (by omega)).mono ?_; rintro e w4 ⟨m, rfl, hm, hd4, hc4⟩
  have hw4 : Below w.heap.size w w4 := hw3.trans (hc4.below hw3.size (fun x hx => by have h3 : x = b := hx; omega))
  have e1 : IntKind.i64.wrap (1 + m) = 1 + m := IntWalk.i64_in _ (by omega)
  go_wp2_with fail
  refine (below _ _ b 6 hd4 (by omega)).mono ?_; rintro e w5 ⟨q, rfl, hq, hd5, hc5⟩
  have hw5 : Below w.heap.size w w5 := hw4.trans (hc5.below hw4.size (fun x hx => by have h3 : x = b := hx; omega))
  have e2 : IntKind.i64.wrap (1 + q) = 1 + q := IntWalk.i64_in _ (by omega)
  go_wp2_with fail
  refine (below _ _ b 4 hd5 (by omega)).mono ?_; rintro e w6 ⟨r, rfl, hr, hd6, hc6⟩
  have hw6 : Below w.heap.size w w6 := hw5.trans (hc6.below hw5.size (fun x hx => by have h3 : x = b := hx; omega))
  have e3 : IntKind.i64.wrap (1 + r) = 1 + r := IntWalk.i64_in _ (by omega)
  have e4 : IntKind.i64.wrap (s + 999999937) = s + 999999937 := IntWalk.i64_in _ (by omega)
  have e5 : IntKind.i64.wrap (1 + m + 1) = 1 + m + 1 := IntWalk.i64_in _ (by omega)
  obtain ⟨N, hN⟩ : ∃ N : Nat, (N : Int) = 1 + m := ⟨(1 + m).toNat, by omega⟩
  have F := diceP_fine (s := s) (p := 1 + q) (o := 1 + r) (N := N) (by omega) (by omega) (by omega) (by omega)
  have G := diceP_fine (s := s) (p := 1 + q) (o := 1 + r) (N := N + 1) (by omega) (by omega) (by omega) (by omega)
  rw [hN] at F
  rw [show ((N + 1 : Nat) : Int) = 1 + m + 1 by omega] at G
  have HO := Lib.hid F.1; have HO2 := Lib.hid G.1
  replace F := Lib.hid F; replace G := Lib.hid G
  have ES := diceP_shift (s := s) (n := 1 + m) (p := 1 + q) (o := 1 + r) hs.1
  clear hd2 hd3 hd4 hd5 hd6 hc3 hc4 hc5 hc6 q1 sz1 lo2 up2
  go_wp2_with fail
  refine (implDice s (1 + m) (1 + q) (1 + r) _ _ (Nat.le_refl _)).mono ?_; rintro e w7 ⟨a0, a1, a2, rfl, hG, hb7⟩
  rw [HO.out]
  have hw7 := below_then hb7 hw6.size hw6
  generalize hg : diceP s (1 + m) (1 + q) (1 + r) = g at *
  obtain ⟨A0, c0, A1, c1, A2, c2, rfl, rfl, rfl⟩ := hG.form
  have hba : Below w7.heap.size w7 (w7.alloc (.cells #[.slice A0 g.1.length c0, .slice A1 g.2.1.length c1, .slice A2 g.2.2.length c2] 44)) := below_alloc (Nat.le_refl _) (Below.refl _ _)
  have bx := Box.new w7 44 #[.slice A0 g.1.length c0, .slice A1 g.2.1.length c1, .slice A2 g.2.2.length c2]
  have hG1 := hG.reads.keep (keeps_below hba)
  have hwa := below_then hba hw7.size hw7
  clear hb7 hba hG
  go_wp2_with fail
  refine (implDice (s + 999999937) (1 + m) (1 + q) (1 + r) _ _ (Nat.le_refl _)).mono ?_; rintro e w8 ⟨d0, d1, d2, rfl, hH, hb8⟩
  rw [HO.out]
  rw [ES] at hH
  have hw8 := below_then hb8 hwa.size hwa
  obtain ⟨D0, f0, D1, f1, D2, f2, rfl, rfl, rfl⟩ := hH.form
  have hba : Below w8.heap.size w8 (w8.alloc (.cells #[.slice D0 g.1.length f0, .slice D1 g.2.1.length f1, .slice D2 g.2.2.length f2] 44)) := below_alloc (Nat.le_refl _) (Below.refl _ _)
  have by_ := Box.new w8 44 #[.slice D0 g.1.length f0, .slice D1 g.2.1.length f1, .slice D2 g.2.2.length f2]
  have hG2 := (hG1.keep (keeps_below hb8)).keep (keeps_below hba)
  have hH2 := hH.reads.keep (keeps_below hba)
  replace bx := (bx.below hb8 bx.lt).below hba (bx.below hb8 bx.lt).lt
  have hwb := below_then hba hw8.size hw8
  clear hb8 hba hH hG1 hwa
  go_wp2_with fail
  refine (implDice s (1 + m + 1) (1 + q) (1 + r) _ _ (Nat.le_refl _)).mono ?_; rintro e w9 ⟨k0, k1, k2, rfl, hK, hb9⟩
  rw [HO2.out]
  have hw9 := below_then hb9 hwb.size hwb
  generalize hk : diceP s (1 + m + 1) (1 + q) (1 + r) = k at *
  obtain ⟨K0, h0, K1, h1, K2, h2, rfl, rfl, rfl⟩ := hK.form
  have hba : Below w9.heap.size w9 (w9.alloc (.cells #[.slice K0 k.1.length h0, .slice K1 k.2.1.length h1, .slice K2 k.2.2.length h2] 44)) := below_alloc (Nat.le_refl _) (Below.refl _ _)
  have bz := Box.new w9 44 #[.slice K0 k.1.length h0, .slice K1 k.2.1.length h1, .slice K2 k.2.2.length h2]
  have hG3 := (hG2.keep (keeps_below hb9)).keep (keeps_below hba)
  have hH3 := (hH2.keep (keeps_below hb9)).keep (keeps_below hba)
  have hK3 := hK.reads.keep (keeps_below hba)
  replace bx := (bx.below hb9 bx.lt).below hba (bx.below hb9 bx.lt).lt
  replace by_ := (by_.below hb9 by_.lt).below hba (by_.below hb9 by_.lt).lt
  have hwc := below_then hba hw9.size hw9
  clear hb9 hba hK hG2 hH2 hwb
  have x0 := bx.cell 0; have x1 := bx.cell 1; have x2 := bx.cell 2; have y0 := by_.cell 0; have y1 := by_.cell 1; have y2 := by_.cell 2; have z0 := bz.cell 0; have z1 := bz.cell 1; have z2 := bz.cell 2
  simp only [List.getElem?_toArray, List.getElem?_cons_zero, List.getElem?_cons_succ] at x0 x1 x2 y0 y1 y2 z0 z1 z2
  go_wp2_with fail
  refine (sameParity _ _ _ _ _ _ g _ _ (Nat.le_refl _) hG3 hH3 F.out.2.1).mono ?_; rintro e w10 ⟨rfl, hb10⟩
  have hw10 := below_then hb10 hwc.size hwc
  replace bx := bx.below hb10 bx.lt; replace bz := bz.below hb10 bz.lt
  have hG4 := hG3.keep (keeps_below hb10)
  have hK4 := hK3.keep (keeps_below hb10)
  clear x0 x1 x2 y0 y1 y2 z0 z1 z2 hb10 hG3 hK3 hH3 by_
  have x0 := bx.cell 0; have x1 := bx.cell 1; have x2 := bx.cell 2; have z0 := bz.cell 0; have z1 := bz.cell 1; have z2 := bz.cell 2
  simp only [List.getElem?_toArray, List.getElem?_cons_zero, List.getElem?_cons_succ] at x0 x1 x2 z0 z1 z2
  have e6 : (g.2.2.length : Int) = 1 + m := by have := F.out.2.2.2.1; omega
  have e7 : (k.2.2.length : Int) = 1 + m + 1 := by have := G.out.2.2.2.1; omega
  go_wp2
  go_loopw [14] (fun i wr => ∃ v : Nat, v ≤ N ∧ i = .int .i64 v ∧ wr = w10) (fun i _ => N - (intOf i).toNat)
  case atStart => exact ⟨0, Nat.zero_le _, by simp⟩
  case round =>
    obtain ⟨v, hv, rfl, rfl⟩ := hrel
    by_cases hlt : v < N
    · obtain ⟨bp, op, rfl, hcp⟩ := hG4.rp.at_ (i := v) (by omega)
      obtain ⟨bn, on, An, nn, cn, rfl, hcN, rn⟩ := hG4.rii.at_ (i := v) (by have := F.out.2.2.1; omega)
      have hp1 := F.out.2.2.2.2.1 v hlt
      have hr1 := F.out.2.2.2.2.2 v hlt
      rw [rn.len] at hr1
      have hki : (v : Int) < 1 + m := by omega
      have hvn : v < g.2.1.length := by have := F.out.2.2.1; omega
      have hvi : (v : Int) < (g.2.1.length : Int) := by omega
      go_wp2
      go_roundw
      case rel => exact ⟨v + 1, by omega, by go_num, trivial⟩
      case measure => simp [intOf]; omega
    · obtain rfl : v = N := by omega
      have hki : ¬ (v : Int) < 1 + m := by omega
      go_wp2_with fail
      refine (specParityOk _ _ _ k _ _ (Nat.le_refl _) hK4).mono ?_; rintro e w11 ⟨rfl, hb11⟩
      rw [G.out.2.1]
      go_wp2
      go_ret
      exact ⟨rfl, below_then hb11 hw10.size hw10⟩

theorem own : ownKnob Try.prog.godebug = none := by kernel_rfl
theorem laidOut : laidOutB Try.prog = true := by kernel_rfl
set_option maxRecDepth 100000 in
theorem lifted (os : Os) (started : os.Started) (H : Type) (enc : TypeId × Value → H) :
    ReturnsInHanded {} Try.checked os 7 .any (Rows.fnDiceGamesSpec.pre6 enc Try.prog Try.f7 Rows.fnDiceGamesRow.domain false) (Rows.fnDiceGamesSpec.post enc Try.prog Try.f7 false true false false) := by
  refine returnsInHanded_of_change (C := Try.checked) own started (by kernel_rfl) Try.func7
    (ChangeSpec.witness6 (enc := enc) (C := Try.checked) false ⟨#[], #[.slice none 0 0], []⟩ 8 (by kernel_rfl) (by kernel_rfl) (by kernel_rfl) (by kernel_rfl)) ?_
  intro W base args ds gs before hval0 hW hcnd _
  have hval : ∀ (j : Nat) t v, Try.f7.params[j]? = some t → args[j]? = some v → Value.okWide Try.prog W .any base t v := hval0
  have hW' := hW
  obtain ⟨p, q, hA0, hV, rfl, hfz, hnd⟩ := hW
  have hA : DataW.TrodAll enc Try.prog W 0 (fun _ => true) true Try.f7.params.toList args.toList ds p := hA0
  rw [Try.params7] at hA hval
  obtain ⟨v0, vs0, d0, ds0, p0, q0, hargs, rfl, rfl, h0, r0⟩ := trodAll_cons hA
  obtain ⟨rfl, rfl, rfl⟩ := trodAll_nil r0
  obtain rfl : args = #[v0] := by cases args; simp_all
  obtain ⟨rfl, rfl⟩ := trodVars_none hV
  have k0 := h0
  have lt0 : ∀ x ∈ p0, x.block < W.heap.size := by obtain ⟨m, hm⟩ := k0; exact DataW.trod_lt m _ _ _ hm
  obtain ⟨fuel0, hf0⟩ := h0
  obtain ⟨A0, n0, c0, rfl⟩ := okWide_slice Try.underlying22 (hval 0 22 v0 rfl rfl)
  obtain ⟨B0, m0, d0, ps0, e0, rr0⟩ := ry_of_trod (c := .slice A0 n0 c0) Try.underlying22 Try.underlying5 (by kernel_rfl) (by intro; rfl) hf0
  injection e0 with ea0 eb0 ec0
  subst ea0; subst eb0; subst ec0
  clear hA0 hval0
  refine (walk _ _ _ _ W rr0).mono fun e W' ⟨he, bel⟩ => ?_
  subst he
  exact ⟨_, rfl, _, _, _, [], _, [], hW', trodAll_mk1 (shut_bool Try.underlying4 _), (trodAll_cons_mk (Below.trod laidOut (by kernel_rfl) (of_decide_eq_true (by kernel_rfl)) k0 bel lt0) trodAll_mk0), rfl, bel.frame _, fun h => by cases h⟩
theorem over : Rows.fnDiceGamesRow.holds Try.pinned (OpenSpec.ofChange Rows.fnDiceGamesSpec) :=
  OpenClaim.holds_of_wide 7 Try.f7 rfl rfl rfl rfl rfl rfl rfl ⟨rfl, rfl, rfl, rfl, rfl⟩ rfl rfl rfl rfl rfl (by kernel_rfl) Try.func7 (by kernel_rfl)
    (of_decide_eq_true (by kernel_rfl)) (by unfold Func.isWrapper; first | (rw [if_pos (by decide +kernel)]; kernel_rfl) | (rw [if_neg (by decide +kernel)]; exact ⟨rfl, rfl⟩))
    (fun os started H enc _ => lifted os started H enc)
/-- the statement -/
theorem proved : Rows.FnDiceGamesSaid := over
end Go.Proofs.Ytefjhkcafcchlaa.fnDiceGames

