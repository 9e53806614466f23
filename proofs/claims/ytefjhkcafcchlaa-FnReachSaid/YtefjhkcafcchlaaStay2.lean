/- StayWon, spec and impl. -/
import Derived.Test.YtefjhkcafcchlaaStay
import Derived.Test.YtefjhkcafcchlaaArenaL
namespace Go.Proofs.Ytefjhkcafcchlaa
open Go.RowKit

set_option maxRecDepth 100000 in
set_option maxHeartbeats 400000 in
theorem implStayWon (s0 s1 : Value) (z : ArD) (who : Int) (C : Option Addr) (m d : Nat) (s : List Int) (w : World) (B : Nat) (hB : B ≤ w.heap.size) (ha : RAv w s0 s1 z.1 z.2) (hs : RI w C m d s) :
    Calls Try.prog 27 #[.agg #[s0, s1], .int .i64 who, .slice C m d] w fun e w' => ∃ v, e = .returned v ∧ OI 2 w' B v (stayR z.1 z.2 who s) ∧ Below B w w' := by
  obtain ⟨A0, n0, c0, A1, n1, c1, rfl, rfl⟩ := ha.form
  have hr := ha.ri; have hrr := ha.rii
  have HL := Lib.hid hr.len
  have hba : Below w.heap.size w (w.alloc (.cells #[.slice A0 n0 c0, .slice A1 n1 c1] 30)) := below_alloc (Nat.le_refl _) (Below.refl _ _)
  have bx := Box.new w 30 #[.slice A0 n0 c0, .slice A1 n1 c1]
  have q0 := bx.d0; have q1 := bx.d1
  cases h : okA z.1 z.2 who s with
  | false =>
    have E := Lib.hid (show stayR z.1 z.2 who s = [] from if_neg (by rw [h]; simp))
    go_enter Try.func27, Try.ntmps27
    go_wp2_with fail
    refine (canAttract _ _ _ _ _ _ _ _ _ _ _ _ _ _ _ (Nat.le_refl _) (hr.keep (keeps_below hba)) (hrr.keep (keeps_below hba)) (hs.keep (keeps_below hba))).mono ?_; rintro e w1 ⟨rfl, hb1'⟩
    have hb1 := below_then hb1' hba.size hba
    go_wp2
    go_ret
    exact ⟨_, rfl, by rw [E.out]; exact OI.nil _ _ _, hb1.mono hB⟩
  | true =>
    obtain ⟨h1, h2, h3⟩ := okA_parts h
    have E := Lib.hid (show stayR z.1 z.2 who s = listM (stayM z.1 z.2 who s) from if_pos h)
    have hf := fineAr_of h1
    have hn0 : n0 ≤ 1048576 := by have := hf.2.1; rw [HL.out] at this; omega
    have HF := Lib.hid hf
    clear hf h1 h2
    go_enter Try.func27, Try.ntmps27
    go_wp2_with fail
    refine (canAttract _ _ _ _ _ _ _ _ _ _ _ _ _ _ _ (Nat.le_refl _) (hr.keep (keeps_below hba)) (hrr.keep (keeps_below hba)) (hs.keep (keeps_below hba))).mono ?_; rintro e w1 ⟨rfl, hb1'⟩
    have hb1 := below_then hb1' hba.size hba
    have bx1 := bx.below hb1' bx.lt
    have q10 := bx1.d0; have q11 := bx1.d1
    go_wp2_with fail
    refine (stayIn _ _ _ _ _ _ _ _ _ _ _ _ _ _ _ (Nat.le_refl _) (hr.keep (keeps_below hb1)) (hrr.keep (keeps_below hb1)) (hs.keep (keeps_below hb1)) HF.out h3).mono ?_; rintro e w2 ⟨v, rfl, ho, hb2⟩
    go_wp2
    go_ret
    exact ⟨_, rfl, by rw [E.out]; exact ho.more (Nat.le_trans hB hb1.size), (below_then hb2 hb1.size hb1).mono hB⟩
theorem stayR_len (z : ArD) (who : Int) (s : List Int) : (stayR z.1 z.2 who s).length ≤ 256 := by
  unfold stayR
  split
  · rename_i h
    have hf := fineAr_of (okA_parts h).1
    refine Nat.le_trans (listM_len _) ?_
    have : (stayM z.1 z.2 who s).length ≤ z.1.length := by
      unfold stayM gfp
      have h0 : ∃ r, isGfp (intoB z.1 z.2 who) z.1.length (mkM z.1.length s) r := gfp_ex _ _ _ (mkM_len _ _)
      have := (@Classical.epsilon_spec _ (isGfp (intoB z.1 z.2 who) z.1.length (mkM z.1.length s)) h0).len
      rw [this, mkM_len]
      exact Nat.le_refl _
    have := hf.2.1
    omega
  · simp
end Go.Proofs.Ytefjhkcafcchlaa
