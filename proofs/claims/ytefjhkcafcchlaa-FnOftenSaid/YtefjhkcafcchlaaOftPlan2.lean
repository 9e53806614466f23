/- OftenPlan, impl: what it returns. -/
import Derived.Test.YtefjhkcafcchlaaOftPlanP
import Derived.Test.YtefjhkcafcchlaaOft
import Derived.Test.YtefjhkcafcchlaaPlan2
namespace Go.Proofs.Ytefjhkcafcchlaa
open Go.RowKit

set_option maxRecDepth 100000 in
theorem oftFn (A D : Option Addr) (n0 c d : Nat) (ms : List Bool) (L : List Int) (v u b1 b2 : Nat) (w : World) (h1 : w.cell? ⟨b1, 0, none⟩ = some (.slice D n0 d)) (h2 : w.cell? ⟨b2, 0, none⟩ = some (.slice A n0 c)) (hm : RB w D n0 d ms) (hL : RI w A n0 c L) (hv : v < n0) (hu : u < n0) (hr : ∀ u, -1 ≤ gi L u ∧ gi L u ≤ 256) :
    Calls Try.prog 99 #[.int .i64 (v : Int), .int .i64 (u : Int), .pointer (some ⟨b1, 0, none⟩), .pointer (some ⟨b2, 0, none⟩)] w fun e w' => e = .returned (.bool (oftA ms L v u)) ∧ Below w.heap.size w w' := by
  obtain ⟨bD, oD, rfl, hcD⟩ := hm.at_ hu
  obtain ⟨bA, oA, rfl, hcu⟩ := hL.at_ hu
  obtain ⟨bA2, oA2, hA2, hcv⟩ := hL.at_ hv
  injection hA2 with hA2
  injection hA2 with hA3 hA4
  subst hA3; subst hA4
  have hvi : (v : Int) < (n0 : Int) := by omega
  have hui : (u : Int) < (n0 : Int) := by omega
  have hv0 : (0 : Int) ≤ (v : Int) := by omega
  have hu0 : (0 : Int) ≤ (u : Int) := by omega
  have hrv := hr v
  have e1 : IntKind.i64.wrap (gi L v - 1) = gi L v - 1 := IntWalk.i64_in _ (by omega)
  clear hr
  cases hg : gb ms u with
  | false =>
    have E := Lib.hid (show oftA ms L v u = false by unfold oftA; rw [hg]; rfl)
    rw [hg] at hcD
    clear hg
    go_enter Try.func99, Try.ntmps99
    go_wp2
    go_quiet (fail)
    go_wp2
    go_ret
    exact ⟨ret_b E.out.symm, by repeat (first | with_reducible assumption | with_reducible exact Below.refl _ _ | with_reducible refine below_drewN ?_ _ | with_reducible refine Below.drew ?_ | with_reducible refine below_alloc (Nat.le_refl _) ?_)⟩
  | true =>
    rw [hg] at hcD
    cases h0 : gi L v == 0 with
    | true =>
      have E := Lib.hid (show oftA ms L v u = true by unfold oftA; rw [hg, h0]; rfl)
      clear hg
      go_enter Try.func99, Try.ntmps99
      go_wp2
      go_quiet (fail)
      go_wp2
      go_ret
      exact ⟨ret_b E.out.symm, by repeat (first | with_reducible assumption | with_reducible exact Below.refl _ _ | with_reducible refine below_drewN ?_ _ | with_reducible refine Below.drew ?_ | with_reducible refine below_alloc (Nat.le_refl _) ?_)⟩
    | false =>
      have E := Lib.hid (show oftA ms L v u = (gi L u == gi L v - 1) by unfold oftA; rw [hg, h0]; rfl)
      clear hg
      go_enter Try.func99, Try.ntmps99
      go_wp2
      go_quiet (fail)
      go_wp2
      go_ret
      exact ⟨ret_b E.out.symm, by repeat (first | with_reducible assumption | with_reducible exact Below.refl _ _ | with_reducible refine below_drewN ?_ _ | with_reducible refine Below.drew ?_ | with_reducible refine below_alloc (Nat.le_refl _) ?_)⟩
theorem oftFn_enter (args : Array Value) (w : World) : (callFunc 99 args).run Try.prog w = .ok (.enter 99 args) w := by kernel_rfl

set_option maxRecDepth 100000 in
set_option maxHeartbeats 1600000 in
theorem implOftenPlan (s0 s1 : Value) (z : ArD) (who : Int) (C : Option Addr) (m d : Nat) (s : List Int) (w : World) (B : Nat) (hB : B ≤ w.heap.size) (ha : RAv w s0 s1 z.1 z.2) (hs : RI w C m d s) :
    Calls Try.prog 33 #[.agg #[s0, s1], .int .i64 who, .slice C m d] w fun e w' => ∃ v, e = .returned v ∧ OI 2 w' B v (oftPlanR z.1 z.2 who s) ∧ Below B w w' := by
  have hmf : ∀ (fn : Fn) (first cap : Array Value) (w : World), (Instr.makeFunc fn first cap).run Try.prog w = .ok (.func fn first cap) w := fun _ _ _ _ => rfl
  obtain ⟨A0, n0, c0, A1, n1, c1, rfl, rfl⟩ := ha.form
  have hr := ha.ri; have hrr := ha.rii
  have HL := Lib.hid hr.len
  have hba : Below w.heap.size w (w.alloc (.cells #[.slice A0 n0 c0, .slice A1 n1 c1] 30)) := below_alloc (Nat.le_refl _) (Below.refl _ _)
  have bx := Box.new w 30 #[.slice A0 n0 c0, .slice A1 n1 c1]
  have q0 := bx.d0; have q1 := bx.d1
  cases h : okA z.1 z.2 who s with
  | false =>
    have E := Lib.hid (show oftPlanR z.1 z.2 who s = [] from if_neg (by rw [h]; simp))
    go_enter Try.func33, Try.ntmps33
    go_wp2_with fail
    refine (canAttract _ _ _ _ _ _ _ _ _ _ _ _ _ _ _ (Nat.le_refl _) (hr.keep (keeps_below hba)) (hrr.keep (keeps_below hba)) (hs.keep (keeps_below hba))).mono ?_; rintro e w1 ⟨rfl, hb1'⟩
    have hb1 := below_then hb1' hba.size hba
    go_wp2
    go_ret
    exact ⟨_, rfl, by rw [E.out]; exact OI.nil _ _ _, hb1.mono hB⟩
  | true =>
    have HO := Lib.hid h
    obtain ⟨h1, h2, h3⟩ := okA_parts h
    have HF := Lib.hid (fineAr_of h1)
    have hn0 : n0 ≤ 256 := by have := HF.out.2.1; rw [HL.out] at this; omega
    have hm0 : 0 < n0 := by have := HF.out.1; rw [HL.out] at this; omega
    have HS3 := Lib.hid h3
    have E := Lib.hid (show oftPlanR z.1 z.2 who s = oftPlanL z.1 z.2 who s from if_pos h)
    have HQ := Lib.hid (oftL_set z.1 z.2 who s)
    clear h1 h2 h3
    go_enter Try.func33, Try.ntmps33
    go_wp2_with fail
    refine (canAttract _ _ _ _ _ _ _ _ _ _ _ _ _ _ _ (Nat.le_refl _) (hr.keep (keeps_below hba)) (hrr.keep (keeps_below hba)) (hs.keep (keeps_below hba))).mono ?_; rintro e w1 ⟨rfl, hb1'⟩
    have hw := below_then hb1' hba.size hba
    replace bx := bx.below hb1' bx.lt
    clear q0 q1 hb1'
    have q0 := bx.d0; have q1 := bx.d1
    go_wp2_with fail
    refine (oftenWon _ _ _ _ _ _ _ _ _ _ _ _ _ _ _ (Nat.le_refl _) (hr.keep (keeps_below hw)) (hrr.keep (keeps_below hw)) (hs.keep (keeps_below hw)) HO.out).mono ?_; rintro e w2 ⟨v2, rfl, ho2, hb2⟩
    have hw2 := below_then hb2 hw.size hw
    replace bx := bx.below hb2 bx.lt
    obtain ⟨A2, c2, rfl⟩ := ho2.form
    clear q0 q1
    have q0 := bx.d0; have q1 := bx.d1
    go_wp2_with fail
    refine (markOf _ _ _ _ _ _ _ _ _ (oftL z.1 z.2 who s) _ _ (Nat.le_refl _) ho2.reads (by rw [← HL.out]; exact HQ.out) (by omega)).mono ?_; rintro e w3 ⟨v3, rfl, ho3, hb3⟩
    obtain ⟨A3, c3, rfl⟩ := ho3.form
    rw [mkM_len] at ho3 ⊢
    have hw3 := below_then hb3 hw2.size hw2
    have hbA : Below w3.heap.size w3 (w3.alloc (.cells #[.slice A3 n0 c3] 98)) := below_alloc (Nat.le_refl _) (Below.refl _ _)
    have bm := Box.new w3 98 #[.slice A3 n0 c3]
    have hwA := below_then hbA hw3.size hw3
    replace bx := (bx.below hb3 bx.lt).below hbA (by have := bx.lt; have := hb3.size; omega)
    replace ho2 := (ho2.below hb3).below hbA
    replace ho3 := ho3.below hbA
    clear q0 q1 hb3 hbA
    have q0 := bx.d0; have q1 := bx.d1
    go_wp2_with fail
    refine (ranksIn _ _ _ _ _ _ _ _ _ _ _ _ _ _ _ (oftL z.1 z.2 who s) s _ _ (Nat.le_refl _) (hr.keep (keeps_below hwA)) (hrr.keep (keeps_below hwA)) ho2.reads (hs.keep (keeps_below hwA)) HF.out HQ.out HS3.out).mono ?_; rintro e w5 ⟨v5, rfl, ho5, hb5⟩
    obtain ⟨A5, c5, rfl⟩ := ho5.form
    have hll : (ranksL z.1 z.2 who (oftL z.1 z.2 who s) s).length = n0 := by rw [ranksL_len, HL.out]
    rw [hll] at ho5 ⊢
    have hw5 := below_then hb5 hwA.size hwA
    have hbB : Below w5.heap.size w5 (w5.alloc (.cells #[.slice A5 n0 c5] 27)) := below_alloc (Nat.le_refl _) (Below.refl _ _)
    have bl := Box.new w5 27 #[.slice A5 n0 c5]
    have hwB := below_then hbB hw5.size hw5
    replace bx := (bx.below hb5 bx.lt).below hbB (by have := bx.lt; have := hb5.size; omega)
    replace bm := (bm.below hb5 bm.lt).below hbB (by have := bm.lt; have := hb5.size; omega)
    replace ho3 := (ho3.below hb5).below hbB
    replace ho5 := ho5.below hbB
    clear q0 q1 hb5 hbB
    have q0 := bx.d0; have q1 := bx.d1
    have q2 : (w5.alloc (.cells #[.slice A5 n0 c5] 27)).cell? ⟨w3.heap.size, 0, none⟩ = some (.slice A3 n0 c3) := bm.cell 0
    have HRT := Lib.hid (show ∀ u, -1 ≤ gi (ranksL z.1 z.2 who (oftL z.1 z.2 who s) s) u ∧ gi (ranksL z.1 z.2 who (oftL z.1 z.2 who s) s) u ≤ 256 from fun u => ⟨ranksL_bound _ _ _ _ _ _, by rw [ranksL_eq]; exact rnks_all (by rw [HL.out]; exact hn0) u⟩)
    go_wp2_with fail
    refine (firstMoves (oftA (mkM n0 (oftL z.1 z.2 who s)) (ranksL z.1 z.2 who (oftL z.1 z.2 who s) s)) 99 #[.pointer (some ⟨w3.heap.size, 0, none⟩), .pointer (some ⟨w5.heap.size, 0, none⟩)] A0 A1 A3 n0 c0 n1 c1 n0 c3 z.1 z.2 who (mkM n0 (oftL z.1 z.2 who s)) _ _ (Nat.le_refl _) (hr.keep (keeps_below hwB)) (hrr.keep (keeps_below hwB)) ho3.reads HF.out rfl oftFn_enter
      (fun w' v u hbw hv hu => oftFn A5 A3 n0 c5 c3 _ _ v u w3.heap.size w5.heap.size w' ((bm.below hbw bm.lt).cell 0) ((bl.below hbw bl.lt).cell 0) (ho3.reads.keep (keeps_below hbw)) (ho5.reads.keep (keeps_below hbw)) hv hu HRT.out)).mono ?_
    rintro e w6 ⟨v6, rfl, ho6, hb6⟩
    have E3 := Lib.hid (show oftPlanR z.1 z.2 who s = planL z.1 z.2 who (mkM n0 (oftL z.1 z.2 who s)) (oftA (mkM n0 (oftL z.1 z.2 who s)) (ranksL z.1 z.2 who (oftL z.1 z.2 who s) s)) by
      rw [E.out]; unfold oftPlanL; rw [HL.out])
    go_wp2
    go_ret
    exact ⟨_, rfl, by rw [E3.out]; exact ho6.more (Nat.le_trans hB hwB.size), (below_then hb6 hwB.size hwB).mono hB⟩
end Go.Proofs.Ytefjhkcafcchlaa
