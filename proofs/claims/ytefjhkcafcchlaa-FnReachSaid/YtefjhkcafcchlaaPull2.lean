/- The attractor's plan in the reference: PullIn; ReachPlan. -/
import Derived.Test.YtefjhkcafcchlaaPull
namespace Go.Proofs.Ytefjhkcafcchlaa
open Go.RowKit

def pullQ (rk : List Int) (v u : Nat) : Bool := gi rk u == gi rk v - 1
theorem pullQ_iff {ins : List Bool} {rk : List Int} {v u : Nat} (h : 1 ≤ gi rk v) (hin : 0 ≤ gi rk u → gb ins u = true) : pullA ins rk v u = pullQ rk v u := by
  unfold pullA pullQ
  cases e : (gi rk u == gi rk v - 1) with
  | false => rw [Bool.and_false]
  | true =>
    have : gi rk u = gi rk v - 1 := by simpa using e
    rw [hin (by omega)]; rfl
set_option maxRecDepth 100000 in
set_option maxHeartbeats 800000 in
theorem implReachPlan (s0 s1 : Value) (z : ArD) (who : Int) (C : Option Addr) (m d : Nat) (s : List Int) (w : World) (B : Nat) (hB : B ≤ w.heap.size) (ha : RAv w s0 s1 z.1 z.2) (hs : RI w C m d s) :
    Calls Try.prog 22 #[.agg #[s0, s1], .int .i64 who, .slice C m d] w fun e w' => ∃ v, e = .returned v ∧ OI 2 w' B v (reachPlanR z.1 z.2 who s) ∧ Below B w w' := by
  obtain ⟨A0, n0, c0, A1, n1, c1, rfl, rfl⟩ := ha.form
  have hr := ha.ri; have hrr := ha.rii
  have HL := Lib.hid hr.len
  have hba : Below w.heap.size w (w.alloc (.cells #[.slice A0 n0 c0, .slice A1 n1 c1] 30)) := below_alloc (Nat.le_refl _) (Below.refl _ _)
  have bx := Box.new w 30 #[.slice A0 n0 c0, .slice A1 n1 c1]
  have q0 := bx.d0; have q1 := bx.d1
  cases h : okA z.1 z.2 who s with
  | false =>
    have E := Lib.hid (show reachPlanR z.1 z.2 who s = [] from if_neg (by rw [h]; simp))
    go_enter Try.func22, Try.ntmps22
    go_wp2_with fail
    refine (canAttract _ _ _ _ _ _ _ _ _ _ _ _ _ _ _ (Nat.le_refl _) (hr.keep (keeps_below hba)) (hrr.keep (keeps_below hba)) (hs.keep (keeps_below hba))).mono ?_; rintro e w1 ⟨rfl, hb1'⟩
    have hb1 := below_then hb1' hba.size hba
    go_wp2
    go_ret
    exact ⟨_, rfl, by rw [E.out]; exact OI.nil _ _ _, hb1.mono hB⟩
  | true =>
    have HA := Lib.hid (okA_all h)
    have HO := Lib.hid h
    obtain ⟨h1, h2, h3⟩ := okA_parts h
    have HF := Lib.hid (fineAr_of h1)
    have hn0 : n0 ≤ 256 := by have := HF.out.2.1; rw [HL.out] at this; omega
    have HSA := Lib.hid (allL_set z.1.length)
    have E := Lib.hid (show reachPlanR z.1 z.2 who s = pullL z.1 z.2 who (allL z.1.length) s from if_pos h)
    have HLA := Lib.hid (show allL n0 = allL z.1.length by rw [HL.out])
    clear h1 h2
    go_enter Try.func22, Try.ntmps22
    go_wp2_with fail
    refine (canAttract _ _ _ _ _ _ _ _ _ _ _ _ _ _ _ (Nat.le_refl _) (hr.keep (keeps_below hba)) (hrr.keep (keeps_below hba)) (hs.keep (keeps_below hba))).mono ?_; rintro e w1 ⟨rfl, hb1'⟩
    have hw := below_then hb1' hba.size hba
    replace bx := bx.below hb1' bx.lt
    clear q0 q1 hb1'
    have q0 := bx.d0; have q1 := bx.d1
    go_wp2_with fail
    go_region_held3 (fun w' => w'.cell? ⟨w.heap.size, 0, none⟩ = some (.slice A0 n0 c0) ∧ w'.cell? ⟨w.heap.size, 1, none⟩ = some (.slice A1 n1 c1))
      (refine ⟨?_, ?_⟩ <;> repeat (first | with_reducible assumption | with_reducible refine keepD ?_ | with_reducible refine keepA ?_))
      (first
        | (go_at_call 84
           refine (allOf A0 A1 n0 c0 n1 c1 _ _ (Nat.le_refl _) hn0).mono ?_
           rintro e w2 ⟨v2, rfl, ho2, hb2⟩
           replace hb2 := below_undrew hb2
           rw [HLA.out] at ho2
           obtain ⟨A2, c2, rfl⟩ := ho2.form
           have hw2 := below_then hb2 hw.size hw
           have bx2 := bx.below hb2 bx.lt
           have q20 := bx2.d0
           have q21 := bx2.d1)
        | (go_at_call 85
           refine (pullIn _ _ _ _ _ _ _ _ _ _ _ _ _ _ _ _ s _ _ (Nat.le_refl _) (hr.keep (keeps_below hw2)) (hrr.keep (keeps_below hw2)) ho2.reads (hs.keep (keeps_below hw2)) HF.out HSA.out h3).mono ?_
           rintro e w3 ⟨v3, rfl, ho3, hb3⟩
           have hw3 := below_then hb3 hw2.size hw2
           have bx3 := bx2.below hb3 bx2.lt
           have q30 := bx3.d0
           have q31 := bx3.d1))
    all_goals
      go_wp2
      go_ret
      exact ⟨_, rfl, by rw [E.out]; exact ho3.more (Nat.le_trans hB hw2.size), hw3.mono hB⟩

end Go.Proofs.Ytefjhkcafcchlaa
