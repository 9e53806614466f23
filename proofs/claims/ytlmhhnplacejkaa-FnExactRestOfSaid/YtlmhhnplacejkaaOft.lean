/- MeetOf, LessOf; the region of what is met again and again: l15Often, oftenWon; OftenWon. -/
import Derived.Test.YtlmhhnplacejkaaOftP
import Derived.Test.YtlmhhnplacejkaaHas
import Derived.Test.YtlmhhnplacejkaaAttr
namespace Go.Proofs.Ytlmhhnplacejkaa
open Go.RowKit

theorem l2Both (A C : Option Addr) (n c m d : Nat) (a b : List Int) (w : World) (ha : RI w A n c a) (hb : RI w C m d b) (hsa : setB a 256 = true) (hsb : setB b 256 = true) :
    Calls Try.prog 149 #[.slice A n c, .slice C m d] w fun e w' => e = .returned (.bool true) ∧ Qt w w' := by
  have E1 := Lib.hid (show (inR 256 0 256 && setB a 256) = true by rw [hsa]; rfl)
  have E2 := Lib.hid (show (inR 256 0 256 && setB b 256) = true by rw [hsb]; rfl)
  clear hsa hsb
  go_enter Try.func149, Try.ntmps149
  go_wp2_with fail
  refine (SetOk _ _ _ _ _ _ ha).mono ?_; rintro e w1 ⟨rfl, q1, rfl⟩
  rw [E1.out]
  go_wp2_with fail
  refine (SetOk _ _ _ _ _ _ (hb.keep (Qt.keeps ⟨q1, rfl⟩))).mono ?_; rintro e w1 ⟨rfl, q2, rfl⟩
  rw [E2.out]
  go_wp2
  go_ret
  exact ⟨rfl, _, rfl⟩
theorem meet_at {a b : List Int} {k : Nat} : pick (fun i => hasL b (gi a i)) (gi a) (k + 1) = if hasL b (gi a k) = true then pick (fun i => hasL b (gi a i)) (gi a) k ++ [gi a k] else pick (fun i => hasL b (gi a i)) (gi a) k := by
  by_cases e : hasL b (gi a k) = true
  · rw [if_pos e, pick_yes e]
  · rw [if_neg e, pick_no (by simpa using e)]
def meetUp (a b : List Int) (k : Nat) : List Int := pick (fun i => hasL b (gi a i)) (gi a) k
theorem meetUp_at {a b : List Int} {k : Nat} : meetUp a b (k + 1) = if hasL b (gi a k) = true then meetUp a b k ++ [gi a k] else meetUp a b k := meet_at


set_option maxRecDepth 100000 in
set_option maxHeartbeats 400000 in
theorem specLessOf (A C : Option Addr) (n c m d : Nat) (a b : List Int) (w : World) (B : Nat) (hB : B ≤ w.heap.size) (ha : RI w A n c a) (hb : RI w C m d b) (hsa : setB a 256 = true) (hsb : setB b 256 = true) :
    Calls Try.prog 91 #[.slice A n c, .slice C m d] w fun e w' => ∃ v, e = .returned v ∧ OI 2 w' B v (lessL a b) ∧ Below B w w' := by
  have b1 := ha.cap; have b2 := ha.top; have b3 := hb.cap; have b4 := hb.top
  have hl := ha.len
  have hn : n ≤ 256 := by have := set_len hsa (by decide); rw [hl] at this; omega
  have HL := Lib.hid hl
  have HSA := Lib.hid hsa; have HSB := Lib.hid hsb
  clear hl hsa hsb
  have hba : Below w.heap.size w (w.alloc (.cells #[] 2)) := below_alloc (Nat.le_refl _) (Below.refl _ _)
  have hem := OI.empty (E := 2) (w := w) (B := w.heap.size) (Nat.le_refl _)
  go_enter Try.func91, Try.ntmps91
  go_wp2_with fail
  refine (l2Both _ _ _ _ _ _ _ _ _ (ha.keep (keeps_below hba)) (hb.keep (keeps_below hba)) HSA.out HSB.out).mono ?_; rintro e w1 ⟨rfl, q1, rfl⟩
  go_wp2
  go_loopw [5, 6] (fun v i wr => ∃ k : Nat, k ≤ n ∧ i = .int .i64 k ∧ OI 2 wr w.heap.size v (lessUp a b k) ∧ Below w.heap.size w wr) (fun _ i _ => n - (intOf i).toNat)
  case atStart => exact ⟨0, Nat.zero_le _, rfl, hem.drewN _, below_drewN hba _⟩
  case round =>
    obtain ⟨k, hk, rfl, ho, hbr⟩ := hrel
    have hup : (lessUp a b k).length ≤ k := pick_len _ _ _
    have hsz := hbr.size
    by_cases hlt : k < n
    · obtain ⟨bb, off, rfl, hc⟩ := (ha.keep (keeps_below hbr)).at_ hlt
      have hb' := hb.keep (keeps_below hbr)
      have hx := less_at (a := a) (b := b) (k := k) (by rw [HL.out]; exact hlt)
      cases hp : hasL b (gi a k) with
      | true =>
        rw [if_pos hp] at hx
        have HX := Lib.hid hx
        clear hx
        go_wp2_with fail
        refine (l1Has _ _ _ _ _ _ hb').mono ?_; rintro e w' ⟨rfl, q, rfl⟩
        go_wp2
        go_roundw
        case rel => exact ⟨k + 1, by omega, by go_num, by rw [HX.out]; exact ho.drewN _, below_drewN hbr _⟩
        case measure => simp [intOf]; omega
      | false =>
        rw [if_neg (by rw [hp]; decide)] at hx
        have HX := Lib.hid hx
        clear hx
        go_wp2_with fail
        refine (l1Has _ _ _ _ _ _ hb').mono ?_; rintro e w' ⟨rfl, q, rfl⟩
        go_wp2_with (refine wpList_pushI rfl (.tmp 26) (.tmp 31) rfl _ _ _ (lessUp a b k) rfl (ho.drewN _) _ rfl (by omega) hsz ?_; intro v2 w2 ho2 hb2 hc2 hat2)
        go_wp2
        go_roundw
        case rel => exact ⟨k + 1, by omega, by go_num, by rw [HX.out]; exact ho2, (below_drewN hbr _).trans hb2⟩
        case measure => simp [intOf]; omega
    · obtain rfl : k = n := by omega
      have HE := Lib.hid (show lessUp a b k = lessL a b by rw [← HL.out]; rfl)
      go_wp2
      go_ret
      exact ⟨_, rfl, by rw [← HE.out]; exact ho.more hB, hbr.mono hB⟩


set_option maxRecDepth 100000 in
set_option maxHeartbeats 1600000 in
theorem oftenWon (A0 A1 C : Option Addr) (n0 c0 n1 c1 m d : Nat) (o : List Int) (n : List (List Int)) (who : Int) (goal : List Int) (w : World) (B : Nat) (hB : B ≤ w.heap.size) (ha : RI w A0 n0 c0 o) (hb : RII w A1 n1 c1 n) (hg : RI w C m d goal) (hok : okA o n who goal = true) :
    Calls Try.prog 113 #[.agg #[.slice A0 n0 c0, .slice A1 n1 c1], .int .i64 who, .slice C m d] w fun e w' => ∃ v, e = .returned v ∧ OI 2 w' B v (oftL o n who goal) ∧ Below B w w' := by
  obtain ⟨p1, p2, p3⟩ := okA_parts hok
  have hf := fineAr_of p1
  have HL := Lib.hid ha.len
  have hn0 : n0 ≤ 256 := by have := hf.2.1; rw [HL.out] at this; omega
  have hwho := of_decide_eq_true p2
  have hw01 : who = 0 ∨ who = 1 := by omega
  have hwa := hwho.1; have hwb := hwho.2
  have HF := Lib.hid hf
  have HP1 := Lib.hid p1
  have HP3 := Lib.hid p3; have HP2 := Lib.hid p2
  have hol : (o.length : Int) ≤ 256 := by have := HF.out.2.1; omega
  have HG256 := Lib.hid (setB_up p3 hol)
  have HOL := Lib.hid hol
  clear hok p1 p2 p3 hf hwho hol
  have hba : Below w.heap.size w (w.alloc (.cells #[.slice A0 n0 c0, .slice A1 n1 c1] 30)) := below_alloc (Nat.le_refl _) (Below.refl _ _)
  have bx := Box.new w 30 #[.slice A0 n0 c0, .slice A1 n1 c1]
  have q0 := bx.d0; have q1 := bx.d1
  go_enter Try.func113, Try.ntmps113
  go_wp2_with fail
  clear q0 q1
  refine (allOf A0 A1 n0 c0 n1 c1 _ _ (Nat.le_refl _) hn0).mono ?_; rintro e w1 ⟨v, rfl, ho, hb1⟩
  have hw1 := below_then hb1 hba.size hba
  have bx1 := bx.below hb1 bx.lt
  have HALL := Lib.hid (show allL n0 = allL o.length by rw [HL.out])
  rw [HALL.out] at ho
  have hz1 : w.heap.size + 1 ≤ w1.heap.size := by have := bx1.lt; omega
  replace ho := ho.more (lo' := w.heap.size + 1) (by simp)
  go_wp2_with fail
  go_loopg [7] (n0 + 1) (fun gk x wr => ∃ (t : Nat) (S : List Int), S = oftS o n who goal t ∧ S.length + 1 ≤ gk ∧ OI 2 wr (w.heap.size + 1) x S ∧ Box wr w.heap.size 30 #[.slice A0 n0 c0, .slice A1 n1 c1] ∧ Below w.heap.size w wr)
  case atStart => exact ⟨0, _, rfl, by have h1 := allL_len o.length; have h2 := HL.out; show (allL o.length).length + 1 ≤ n0 + 1; omega, ho, bx1, hw1⟩
  case round =>
    clear ho bx1 hw1 hb1 bx hba
    obtain ⟨wa, rfl⟩ : ∃ wa : World, wa = wr := ⟨_, rfl⟩
    obtain ⟨t, S, hSt, hgk, ho, bxwa, hwwa⟩ := hrel
    have HSS := Lib.hid (show setB S o.length = true by rw [hSt]; exact oftS_set _ _ _ _ _)
    have HSC := Lib.hid (show shut o n who S by rw [hSt]; exact oftS_shut HF.out who goal t)
    have HST := Lib.hid hSt
    have hSl : S.length ≤ 256 := by have h1 := set_len HSS.out (by omega); have h2 := HOL.out; omega
    have HS256 := Lib.hid (setB_up HSS.out HOL.out)
    have HOK := Lib.hid (show okA o n who S = true by unfold okA; rw [HP1.out, HP2.out, HSS.out]; rfl)
    obtain ⟨A7, c7, rfl⟩ := ho.form
    have hzs := bxwa.lt
    clear hSt
    have q0 := bxwa.d0; have q1 := bxwa.d1
    go_wp2_with fail
    have HRS := Lib.hid (attrL_set o n who S goal)
    go_region_held3 (fun w' => w'.cell? ⟨w.heap.size, 0, none⟩ = some (.slice A0 n0 c0) ∧ w'.cell? ⟨w.heap.size, 1, none⟩ = some (.slice A1 n1 c1))
      (refine ⟨?_, ?_⟩ <;> repeat (first | with_reducible assumption | with_reducible refine keepD ?_ | with_reducible refine keepA ?_))
      (first
        | (go_at_call 98
           refine (attract _ _ _ _ _ _ _ _ _ _ _ _ o n who S goal _ _ (Nat.le_refl _) (ha.keep (keeps_below (Below.drew hwwa))) (hb.keep (keeps_below (Below.drew hwwa))) (ho.drew).reads (hg.keep (keeps_below (Below.drew hwwa))) HF.out HSS.out HP3.out).mono ?_
           rintro e wb ⟨v2, rfl, ho2, hbwb⟩
           replace hbwb := below_undrew hbwb
           have hwwb := below_then hbwb hwwa.size hwwa
           have bxwb := bxwa.below hbwb bxwa.lt
           have qwb0 := bxwb.d0
           have qwb1 := bxwb.d1
           obtain ⟨A8, c8, rfl⟩ := ho2.form)
        | (go_at_call 163
           refine (stayIn _ _ _ _ _ _ _ _ _ o n who (attrL o n who S goal) _ _ (Nat.le_refl _) (ha.keep (keeps_below hwwb)) (hb.keep (keeps_below hwwb)) ho2.reads HF.out HRS.out).mono ?_
           rintro e wc ⟨v3, rfl, ho3, hbwc⟩
           have hwwc := below_then hbwc hwwb.size hwwb
           have bxwc := bxwb.below hbwc bxwb.lt
           have qwc0 := bxwc.d0
           have qwc1 := bxwc.d1
           replace ho3 : OI 2 wc _ v3 (oftStep o n who goal S) := ho3
           obtain ⟨A9, c9, rfl⟩ := ho3.form))
    all_goals
      have HRL := Lib.hid (oftStep_len (n := n) (who := who) (goal := goal) HSS.out)
      have HRF := Lib.hid (show oftStep o n who goal S = oftS o n who goal (t + 1) by rw [oftS, ← HST.out])
      have HRC := Lib.hid (show oftStep o n who goal S = S → S = oftL o n who goal from fun h => isOft.is ⟨t, HST.out, h⟩)
      generalize oftStep o n who goal S = R at *
      have hrl := HRL.out.1
      replace ho := (ho.below hbwb).below hbwc
      by_cases heq : R.length = S.length
      · have HQ := Lib.hid (HRC.out (HRL.out.2 (by omega)))
        have d1 : ((R.length : Int) == (S.length : Int)) = true := by simp [heq]
        have d2 : (R.length == S.length) = true := by simp [heq]
        clear heq
        go_wp2
        go_ret
        exact ⟨_, rfl, by rw [← HQ.out]; exact ho.more (by omega), hwwc.mono hB⟩
      · have d1 : ((R.length : Int) == (S.length : Int)) = false := by simp; omega
        have d2 : (R.length == S.length) = false := by simp [heq]
        have hlt : R.length < S.length := by omega
        clear heq
        go_wp2_with fail
        go_roundg (R.length + 1)
        case measure => omega
        case rel => exact ⟨t + 1, R, HRF.out, Nat.le_refl _, ho3.more (Nat.succ_le_of_lt bxwb.lt), bxwc, hwwc⟩


set_option maxRecDepth 100000 in
set_option maxHeartbeats 800000 in
theorem implOftenWon (s0 s1 : Value) (z : ArD) (who : Int) (C : Option Addr) (m d : Nat) (s : List Int) (w : World) (B : Nat) (hB : B ≤ w.heap.size) (ha : RAv w s0 s1 z.1 z.2) (hs : RI w C m d s) :
    Calls Try.prog 48 #[.agg #[s0, s1], .int .i64 who, .slice C m d] w fun e w' => ∃ v, e = .returned v ∧ OI 2 w' B v (oftR z.1 z.2 who s) ∧ Below B w w' := by
  obtain ⟨A0, n0, c0, A1, n1, c1, rfl, rfl⟩ := ha.form
  have hr := ha.ri; have hrr := ha.rii
  have hba : Below w.heap.size w (w.alloc (.cells #[.slice A0 n0 c0, .slice A1 n1 c1] 30)) := below_alloc (Nat.le_refl _) (Below.refl _ _)
  have bx := Box.new w 30 #[.slice A0 n0 c0, .slice A1 n1 c1]
  have q0 := bx.d0; have q1 := bx.d1
  cases h : okA z.1 z.2 who s with
  | false =>
    have E := Lib.hid (show oftR z.1 z.2 who s = [] from if_neg (by rw [h]; simp))
    go_enter Try.func48, Try.ntmps48
    go_wp2_with fail
    refine (canAttract _ _ _ _ _ _ _ _ _ _ _ _ _ _ _ (Nat.le_refl _) (hr.keep (keeps_below hba)) (hrr.keep (keeps_below hba)) (hs.keep (keeps_below hba))).mono ?_; rintro e w1 ⟨rfl, hb1'⟩
    have hb1 := below_then hb1' hba.size hba
    go_wp2
    go_ret
    exact ⟨_, rfl, by rw [E.out]; exact OI.nil _ _ _, hb1.mono hB⟩
  | true =>
    have HO := Lib.hid h
    have E := Lib.hid (show oftR z.1 z.2 who s = oftL z.1 z.2 who s from if_pos h)
    go_enter Try.func48, Try.ntmps48
    go_wp2_with fail
    refine (canAttract _ _ _ _ _ _ _ _ _ _ _ _ _ _ _ (Nat.le_refl _) (hr.keep (keeps_below hba)) (hrr.keep (keeps_below hba)) (hs.keep (keeps_below hba))).mono ?_; rintro e w1 ⟨rfl, hb1'⟩
    have hw := below_then hb1' hba.size hba
    replace bx := bx.below hb1' bx.lt
    clear q0 q1 hb1'
    have q0 := bx.d0; have q1 := bx.d1
    go_wp2_with fail
    refine (oftenWon _ _ _ _ _ _ _ _ _ _ _ _ _ _ _ (Nat.le_refl _) (hr.keep (keeps_below hw)) (hrr.keep (keeps_below hw)) (hs.keep (keeps_below hw)) HO.out).mono ?_; rintro e w2 ⟨v2, rfl, ho2, hb2⟩
    go_wp2
    go_ret
    exact ⟨_, rfl, by rw [E.out]; exact ho2.more (Nat.le_trans hB hw.size), (below_then hb2 hw.size hw).mono hB⟩

end Go.Proofs.Ytlmhhnplacejkaa
