/- FnReach: for every input the law returns true, and the argument reads as it read before. No condition. -/
import Derived.Test.YtefjhkcafcchlaaPlay3
import Derived.Test.YtefjhkcafcchlaaCpy
import Derived.Test.YtefjhkcafcchlaaOpenY
import Derived.Test.YtefjhkcafcchlaaDiceS
import Derived.Test.YtefjhkcafcchlaaStrat
import Derived.Test.YtefjhkcafcchlaaPull2
import Derived.Test.YtefjhkcafcchlaaPlan2
import Derived.Test.YtefjhkcafcchlaaStay2
namespace Go.Proofs.Ytefjhkcafcchlaa.fnReach
open Go.ChangeShapes Go.WideShapes Go.ChangeAt Go.RowKit

set_option maxRecDepth 100000 in
set_option maxHeartbeats 3200000 in
theorem walk (A : Option Addr) (n c : Nat) (l : List Int) (w : World) (hy : RY w A n c l) :
    Calls Try.prog 3 #[.slice A n c] w fun e w' => e = .returned (.bool true) ∧ Below w.heap.size w w' := by
  have b1 := hy.cap; have b2 := hy.top
  by_cases hb : 4096 < n
  · have E := Lib.hid (show decide (4096 < n) = true from decide_eq_true hb)
    go_enter Try.func3, Try.ntmps3
    go_wp2_with fail
    refine (big _ _ _ _ _ hy).mono ?_; rintro e w1 ⟨rfl, q1⟩
    rw [E.out]
    go_wp2
    go_ret
    exact ⟨rfl, below_qt q1 (Below.refl _ _)⟩
  have E := Lib.hid (show decide (4096 < n) = false from decide_eq_false hb)
  have hn : n ≤ 4096 := by omega
  clear hb
  go_enter Try.func3, Try.ntmps3
  go_wp2_with fail
  refine (big _ _ _ _ _ hy).mono ?_; rintro e w1 ⟨rfl, q1⟩
  rw [E.out]
  have hw1 := below_qt q1 (Below.refl w.heap.size w)
  have sz1 := hw1.size
  go_wp2_with fail
  refine (roll A n c l _ _ (hy.keep (keeps_below hw1)) hn).mono ?_; rintro e w2 ⟨b, rfl, hd2⟩
  have hw2 := below_then hd2.bel sz1 hw1
  have lo2 := hd2.lo
  have up2 := hd2.lt
  go_wp2_with fail
  refine (w6Arena _ _ b 7 hd2 (by omega) (by omega)).mono ?_; rintro e w3 ⟨s0, s1, z, rfl, ⟨har, hzl⟩, ho3, hd3, hc3⟩
  obtain ⟨A0, c0, A1, c1, rfl, rfl⟩ := ho3.form
  have hw3 : Below w.heap.size w w3 := hw2.trans (hc3.below (by have := hw2.size; omega) (fun x hx => by have h3 : x = b := hx; omega))
  have sz3 := hc3.size
  have hbA : Below w3.heap.size w3 (w3.alloc (.cells #[.slice A0 z.1.length c0, .slice A1 z.2.length c1] 30)) := below_alloc (Nat.le_refl _) (Below.refl _ _)
  have bx := Box.new w3 30 #[.slice A0 z.1.length c0, .slice A1 z.2.length c1]
  have hwA := below_then hbA hw3.size hw3
  have hF := fineAr_of har
  have HAR := Lib.hid har
  have HF := Lib.hid hF
  have hz8 : z.1.length ≤ 7 := by omega
  have hz1 : 1 ≤ z.1.length := hF.1
  clear har hF hzl
  go_wp2_with fail
  refine (below _ _ b 2 (hd3.on hbA) (by omega)).mono ?_; rintro e w4 ⟨who, rfl, hwho, hd4, hc4⟩
  have hW0 := hwho.1; have hW1 : who ≤ 1 := by have := hwho.2; omega
  have hw4 : Below w.heap.size w w4 := hwA.trans (hc4.below hwA.size (fun x hx => by have h3 : x = b := hx; omega))
  replace bx : Box w4 w3.heap.size 30 #[.slice A0 z.1.length c0, .slice A1 z.2.length c1] := (hc4.block _ bx.lt (fun e => by have h3 : w3.heap.size = b := e; omega)).trans bx
  replace ho3 := (ho3.below hbA).chg hc4 (fun y hy => by have h3 : y = b := hy; omega)
  clear hbA hd3 hc3 hd2 hwA hwho
  have q0 := bx.d0
  go_wp2_with fail
  refine (w6Set _ _ b (z.1.length : Int) hd4 (by omega) (by omega)).mono ?_; rintro e w5 ⟨vs, sf, rfl, hsf, hoS, hd, hc5⟩
  obtain ⟨As, cs, rfl⟩ := hoS.form
  have hw5 : Below w.heap.size w w5 := hw4.trans (hc5.below hw4.size (fun x hx => by have h3 : x = b := hx; omega))
  have sz4 := hc4.size
  have sz5 := hc5.size
  replace bx : Box w5 w3.heap.size 30 #[.slice A0 z.1.length c0, .slice A1 z.2.length c1] := (hc5.block _ bx.lt (fun e => by have h3 : w3.heap.size = b := e; omega)).trans bx
  replace ho3 := ho3.chg hc5 (fun y hy => by have h3 : y = b := hy; omega)
  have bx3 := bx.lt
  have hbs4 : b < w4.heap.size := hd4.lt
  have HSF := Lib.hid hsf
  have HOK := Lib.hid (show okA z.1 z.2 who sf = true by
    unfold okA inR
    rw [HAR.out, hsf, decide_eq_true (show 0 ≤ who ∧ who ≤ 1 by omega)]; rfl)
  have HOK2 := Lib.hid (show okA z.1 z.2 (1 - who) (otherL z.1.length sf) = true by
    unfold okA inR
    rw [HAR.out, other_set, decide_eq_true (show 0 ≤ 1 - who ∧ 1 - who ≤ 1 by omega)]; rfl)
  have EW := Lib.hid (show reachR z.1 z.2 who sf = attrL z.1 z.2 who (allL z.1.length) sf from if_pos HOK.out)
  have EP := Lib.hid (show reachPlanR z.1 z.2 who sf = pullL z.1 z.2 who (allL z.1.length) sf from if_pos HOK.out)
  have ET := Lib.hid (show stayPlanR z.1 z.2 (1 - who) (otherL z.1.length sf) = planL z.1 z.2 (1 - who) (stayM z.1 z.2 (1 - who) (otherL z.1.length sf)) (fun _ u => gb (stayM z.1 z.2 (1 - who) (otherL z.1.length sf)) u) from if_pos HOK2.out)
  have EK := Lib.hid (show stayR z.1 z.2 (1 - who) (otherL z.1.length sf) = otherL z.1.length (attrL z.1 z.2 who (allL z.1.length) sf) from (if_pos HOK2.out).trans (reach_other HF.out ⟨hW0, hW1⟩))
  have e1w : IntKind.i64.wrap (1 - who) = 1 - who := IntWalk.i64_in _ (by omega)
  clear hd4 hc4 hc5 q0 hsf
  have q0 := bx.d0; have q1 := bx.d1
  have lt5 := hd.lt
  go_wp2_with fail
  refine (w6Copy _ _ z _ _ (Nat.le_refl _) ho3.reads HF.out).mono ?_; rintro e w6 ⟨t0, t1, rfl, hoX, hb6⟩
  have hw6 := below_then hb6 hw5.size hw5
  replace bx := bx.below hb6 bx.lt; replace ho3 := ho3.below hb6; replace hd := hd.on hb6; replace hoS := hoS.below hb6
  clear hb6 q0 q1
  have q0 := bx.d0; have q1 := bx.d1
  have lt6 := hd.lt
  go_wp2_with fail
  refine (implReachWon _ _ z who _ _ _ sf _ _ (Nat.le_refl _) hoX.reads hoS.reads).mono ?_; rintro e w7 ⟨vw, rfl, hoW, hb7⟩
  have hw7 := below_then hb7 hw6.size hw6
  replace bx := bx.below hb7 bx.lt; replace ho3 := ho3.below hb7; replace hd := hd.on hb7; replace hoS := hoS.below hb7
  rw [EW.out] at hoW
  obtain ⟨Aw, cw, rfl⟩ := hoW.form
  clear hoX
  clear hb7 q0 q1
  have q0 := bx.d0; have q1 := bx.d1
  have lt7 := hd.lt
  go_wp2_with fail
  refine (w6Copy _ _ z _ _ (Nat.le_refl _) ho3.reads HF.out).mono ?_; rintro e w8 ⟨t0, t1, rfl, hoX, hb8⟩
  have hw8 := below_then hb8 hw7.size hw7
  replace bx := bx.below hb8 bx.lt; replace ho3 := ho3.below hb8; replace hd := hd.on hb8; replace hoS := hoS.below hb8; replace hoW := hoW.below hb8
  clear hb8 q0 q1
  have q0 := bx.d0; have q1 := bx.d1
  have lt8 := hd.lt
  go_wp2_with fail
  refine (implReachPlan _ _ z who _ _ _ sf _ _ (Nat.le_refl _) hoX.reads hoS.reads).mono ?_; rintro e w9 ⟨vp, rfl, hoP, hb9⟩
  have hw9 := below_then hb9 hw8.size hw8
  replace bx := bx.below hb9 bx.lt; replace ho3 := ho3.below hb9; replace hd := hd.on hb9; replace hoS := hoS.below hb9; replace hoW := hoW.below hb9
  rw [EP.out] at hoP
  obtain ⟨Ap, cp, rfl⟩ := hoP.form
  clear hoX
  clear hb9 q0 q1
  have q0 := bx.d0; have q1 := bx.d1
  have lt9 := hd.lt
  go_wp2_with fail
  refine (w6Copy _ _ z _ _ (Nat.le_refl _) ho3.reads HF.out).mono ?_; rintro e w10 ⟨t0, t1, rfl, hoX, hb10⟩
  have hw10 := below_then hb10 hw9.size hw9
  replace bx := bx.below hb10 bx.lt; replace ho3 := ho3.below hb10; replace hd := hd.on hb10; replace hoS := hoS.below hb10; replace hoW := hoW.below hb10; replace hoP := hoP.below hb10
  clear hb10 q0 q1
  have q0 := bx.d0; have q1 := bx.d1
  have lt10 := hd.lt
  go_wp2_with fail
  refine (w6Other z.1.length _ _ _ sf _ _ (Nat.le_refl _) hoS.reads (by omega)).mono ?_; rintro e w11 ⟨vo, rfl, hoO, hb11⟩
  have hw11 := below_then hb11 hw10.size hw10
  replace bx := bx.below hb11 bx.lt; replace ho3 := ho3.below hb11; replace hd := hd.on hb11; replace hoS := hoS.below hb11; replace hoW := hoW.below hb11; replace hoP := hoP.below hb11; replace hoX := hoX.below hb11
  obtain ⟨Ao, co, rfl⟩ := hoO.form
  clear hb11 q0 q1
  have q0 := bx.d0; have q1 := bx.d1
  have lt11 := hd.lt
  go_wp2_with fail
  refine (implStayPlan _ _ z (1 - who) _ _ _ (otherL z.1.length sf) _ _ (Nat.le_refl _) hoX.reads hoO.reads).mono ?_; rintro e w12 ⟨vt, rfl, hoT, hb12⟩
  have hw12 := below_then hb12 hw11.size hw11
  replace bx := bx.below hb12 bx.lt; replace ho3 := ho3.below hb12; replace hd := hd.on hb12; replace hoS := hoS.below hb12; replace hoW := hoW.below hb12; replace hoP := hoP.below hb12
  rw [ET.out] at hoT
  obtain ⟨At, ct, rfl⟩ := hoT.form
  clear hoX hoO
  clear hb12 q0 q1
  have q0 := bx.d0; have q1 := bx.d1
  have lt12 := hd.lt
  go_wp2_with fail
  refine (specReachWon _ _ z who _ _ _ sf _ _ (Nat.le_refl _) ho3.reads hoS.reads).mono ?_; rintro e w13 ⟨vm, rfl, hoM, hb13⟩
  have hw13 := below_then hb13 hw12.size hw12
  replace bx := bx.below hb13 bx.lt; replace ho3 := ho3.below hb13; replace hd := hd.on hb13; replace hoS := hoS.below hb13; replace hoW := hoW.below hb13; replace hoP := hoP.below hb13; replace hoT := hoT.below hb13
  rw [EW.out] at hoM
  obtain ⟨Am, cm, rfl⟩ := hoM.form
  clear hb13 q0 q1
  have q0 := bx.d0; have q1 := bx.d1
  go_wp2_with fail
  refine (likeInts _ _ _ _ _ _ _ _ _ hoW.reads hoM.reads).mono ?_; rintro e w14 ⟨rfl, qq14⟩
  have hb14 := below_qt qq14 (Below.refl w13.heap.size w13)
  have hw14 := below_then hb14 hw13.size hw13
  replace bx := bx.below hb14 bx.lt; replace ho3 := ho3.below hb14; replace hd := hd.on hb14; replace hoS := hoS.below hb14; replace hoW := hoW.below hb14; replace hoP := hoP.below hb14; replace hoT := hoT.below hb14
  rw [eqL_self]
  clear hoM
  clear hb14 q0 q1 qq14
  have q0 := bx.d0; have q1 := bx.d1
  have lt14 := hd.lt
  go_wp2_with fail
  refine (w6Copy _ _ z _ _ (Nat.le_refl _) ho3.reads HF.out).mono ?_; rintro e w15 ⟨t0, t1, rfl, hoX, hb15⟩
  have hw15 := below_then hb15 hw14.size hw14
  replace bx := bx.below hb15 bx.lt; replace ho3 := ho3.below hb15; replace hd := hd.on hb15; replace hoS := hoS.below hb15; replace hoW := hoW.below hb15; replace hoP := hoP.below hb15; replace hoT := hoT.below hb15
  clear hb15 q0 q1
  have q0 := bx.d0; have q1 := bx.d1
  have lt15 := hd.lt
  go_wp2_with fail
  refine (w6Other z.1.length _ _ _ sf _ _ (Nat.le_refl _) hoS.reads (by omega)).mono ?_; rintro e w16 ⟨vo, rfl, hoO, hb16⟩
  have hw16 := below_then hb16 hw15.size hw15
  replace bx := bx.below hb16 bx.lt; replace ho3 := ho3.below hb16; replace hd := hd.on hb16; replace hoS := hoS.below hb16; replace hoW := hoW.below hb16; replace hoP := hoP.below hb16; replace hoT := hoT.below hb16; replace hoX := hoX.below hb16
  obtain ⟨Ao, co, rfl⟩ := hoO.form
  clear hb16 q0 q1
  have q0 := bx.d0; have q1 := bx.d1
  have lt16 := hd.lt
  go_wp2_with fail
  refine (implStayWon _ _ z (1 - who) _ _ _ (otherL z.1.length sf) _ _ (Nat.le_refl _) hoX.reads hoO.reads).mono ?_; rintro e w17 ⟨vk, rfl, hoK, hb17⟩
  have hw17 := below_then hb17 hw16.size hw16
  replace bx := bx.below hb17 bx.lt; replace ho3 := ho3.below hb17; replace hd := hd.on hb17; replace hoS := hoS.below hb17; replace hoW := hoW.below hb17; replace hoP := hoP.below hb17; replace hoT := hoT.below hb17
  rw [EK.out] at hoK
  obtain ⟨Ak, ck, rfl⟩ := hoK.form
  clear hoX hoO
  clear hb17 q0 q1
  have q0 := bx.d0; have q1 := bx.d1
  have lt17 := hd.lt
  go_wp2_with fail
  refine (w6Other z.1.length _ _ _ (attrL z.1 z.2 who (allL z.1.length) sf) _ _ (Nat.le_refl _) hoW.reads (by omega)).mono ?_; rintro e w18 ⟨vo, rfl, hoO, hb18⟩
  have hw18 := below_then hb18 hw17.size hw17
  replace bx := bx.below hb18 bx.lt; replace ho3 := ho3.below hb18; replace hd := hd.on hb18; replace hoS := hoS.below hb18; replace hoW := hoW.below hb18; replace hoP := hoP.below hb18; replace hoT := hoT.below hb18; replace hoK := hoK.below hb18
  obtain ⟨Ao, co, rfl⟩ := hoO.form
  clear hb18 q0 q1
  have q0 := bx.d0; have q1 := bx.d1
  go_wp2_with fail
  refine (likeInts _ _ _ _ _ _ _ _ _ hoK.reads hoO.reads).mono ?_; rintro e w19 ⟨rfl, qq19⟩
  have hb19 := below_qt qq19 (Below.refl w18.heap.size w18)
  have hw19 := below_then hb19 hw18.size hw18
  replace bx := bx.below hb19 bx.lt; replace ho3 := ho3.below hb19; replace hd := hd.on hb19; replace hoS := hoS.below hb19; replace hoW := hoW.below hb19; replace hoP := hoP.below hb19; replace hoT := hoT.below hb19; replace hoK := hoK.below hb19
  rw [eqL_self]
  clear hoO
  clear hb19 q0 q1 qq19
  have q0 := bx.d0; have q1 := bx.d1
  have FP : fineP z.1 z.2 who (pullL z.1 z.2 who (allL z.1.length) sf) := pullL_fine HF.out _ _
  have FT : fineP z.1 z.2 (1 - who) (planL z.1 z.2 (1 - who) (stayM z.1 z.2 (1 - who) (otherL z.1.length sf)) (fun _ u => gb (stayM z.1 z.2 (1 - who) (otherL z.1.length sf)) u)) := planL_fine HF.out _ _
  have L1 := Lib.hid (fun (v : Nat) (hv : v < z.1.length) (hm : hasL (attrL z.1 z.2 who (allL z.1.length) sf) (v : Int) = true) (q st lp : List Int) (hq : fullP z.1 z.2 (1 - who) q) (hp : isPlay (stepN z.1 z.2 who (pullL z.1 z.2 who (allL z.1.length) sf) q) v st lp) => reach_won (goal := sf) HF.out ⟨hW0, hW1⟩ hv hm hq hp)
  have L2 := Lib.hid (fun (v : Nat) (hv : v < z.1.length) (hm : hasL (attrL z.1 z.2 who (allL z.1.length) sf) (v : Int) = false) (q st lp : List Int) (hq : fullP z.1 z.2 (1 - (1 - who)) q) (hp : isPlay (stepN z.1 z.2 (1 - who) (planL z.1 z.2 (1 - who) (stayM z.1 z.2 (1 - who) (otherL z.1.length sf)) (fun _ u => gb (stayM z.1 z.2 (1 - who) (otherL z.1.length sf)) u)) q) v st lp) => reach_lost (goal := sf) HF.out ⟨hW0, hW1⟩ hv hm hq hp)
  clear hoK EW EP ET EK HOK HOK2
  generalize pullL z.1 z.2 who (allL z.1.length) sf = PL at *
  generalize planL z.1 z.2 (1 - who) (stayM z.1 z.2 (1 - who) (otherL z.1.length sf)) (fun _ u => gb (stayM z.1 z.2 (1 - who) (otherL z.1.length sf)) u) = PT at *
  generalize attrL z.1 z.2 who (allL z.1.length) sf = W at *
  have HFP := Lib.hid FP; have HFT := Lib.hid FT
  clear FP FT
  have lt19 := hd.lt
  go_wp2_with fail
  refine (planOk _ _ _ _ _ _ _ _ _ z.1 z.2 who PL _ _ (Nat.le_refl _) ho3.reads.ri ho3.reads.rii hoP.reads HF.out HAR.out ⟨hW0, hW1⟩ HFP.out).mono ?_; rintro e w20 ⟨rfl, hb20⟩
  have hw20 := below_then hb20 hw19.size hw19
  replace bx := bx.below hb20 bx.lt; replace ho3 := ho3.below hb20; replace hd := hd.on hb20; replace hoS := hoS.below hb20; replace hoW := hoW.below hb20; replace hoP := hoP.below hb20; replace hoT := hoT.below hb20
  clear hb20 q0 q1
  have q0 := bx.d0; have q1 := bx.d1
  have lt20 := hd.lt
  go_wp2_with fail
  refine (planOk _ _ _ _ _ _ _ _ _ z.1 z.2 (1 - who) PT _ _ (Nat.le_refl _) ho3.reads.ri ho3.reads.rii hoT.reads HF.out HAR.out (by omega) HFT.out).mono ?_; rintro e w21 ⟨rfl, hb21⟩
  have hw21 := below_then hb21 hw20.size hw20
  replace bx := bx.below hb21 bx.lt; replace ho3 := ho3.below hb21; replace hd := hd.on hb21; replace hoS := hoS.below hb21; replace hoW := hoW.below hb21; replace hoP := hoP.below hb21; replace hoT := hoT.below hb21
  clear hb21 q0 q1
  have q0 := bx.d0; have q1 := bx.d1
  clear q0 q1
  have szE := hd.lt
  have hbE : b < w4.heap.size := hbs4
  go_wp2
  go_loopw [11] (fun i wr => ∃ v : Nat, v ≤ z.1.length ∧ i = .int .i64 v ∧ DiceAt w1 wr b ∧ Chg (fun y => y = b) w21 wr) (fun i _ => z.1.length - (intOf i).toNat)
  case atStart => exact ⟨0, Nat.zero_le _, rfl, hd, Chg.refl _ _⟩
  case round =>
    clear hd
    obtain ⟨v, hv, rfl, hd, hch⟩ := hrel
    have bxr : Box wr w3.heap.size 30 #[.slice A0 z.1.length c0, .slice A1 z.2.length c1] := (hch.block _ bx.lt (fun e => by have h3 : w3.heap.size = b := e; omega)).trans bx
    have hor := ho3.chg hch (fun y hy => by have h3 : y = b := hy; omega)
    have hSr := hoS.chg hch (fun y hy e => by have := (hoS.lt y hy).1; have h3 : y = b := e; omega)
    have hWr := hoW.chg hch (fun y hy e => by have := (hoW.lt y hy).1; have h3 : y = b := e; omega)
    have hPr := hoP.chg hch (fun y hy e => by have := (hoP.lt y hy).1; have h3 : y = b := e; omega)
    have hTr := hoT.chg hch (fun y hy e => by have := (hoT.lt y hy).1; have h3 : y = b := e; omega)
    have szr := hch.size
    have q0 := bxr.d0; have q1 := bxr.d1
    by_cases hvl : v < z.1.length
    · cases hm : hasL W (v : Int) with
      | true =>
        have HM := Lib.hid hm
        clear hm
        go_wp2_with fail
        refine (w6Has _ _ _ W _ _ hWr.reads).mono ?_; rintro e wh ⟨rfl, qh⟩
        rw [HM.out]
        have hbh := below_qt qh (Below.refl wr.heap.size wr)
        have bxh := bxr.below hbh bxr.lt
        have horh := hor.below hbh; have hSh := hSr.below hbh; have hph := hPr.below hbh
        have hdh := hd.on hbh
        have hchh := hch.then_below hbh hch.size
        have szh := hchh.size
        clear q0 q1 bxr hor hSr hWr hPr hTr hd qh hbh
        have q0 := bxh.d0; have q1 := bxh.d1
        go_wp2_with fail
        refine (w6Against _ _ _ z who PL v w1 _ b _ _ hdh horh (by omega) hph (by omega) HAR.out ⟨hW0, hW1⟩ HFP.out hvl).mono ?_; rintro e wa ⟨v0, v1, st, lp, q, rfl, hfq, hpl, hlen, ho5, ho6, hda, hca⟩
        have EM := Lib.hid (show meetB sf (st ++ lp) = true from L1.out v hvl HM.out q st lp hfq hpl)
        obtain ⟨A5, c5, rfl⟩ := ho5.form
        obtain ⟨A6, c6, rfl⟩ := ho6.form
        have hl5 := hlen.1; have hl6 := hlen.2
        have hSa := hSh.chg hca (fun y hy e => by have := (hSh.lt y hy).1; have h3 : y = b := e; omega)
        have hcha := chg_then hchh hca
        have sza := hca.size
        have hbL : Below wa.heap.size wa (wa.alloc (.cells #[.slice A5 st.length c5, .slice A6 lp.length c6] 41)) := below_alloc (Nat.le_refl _) (Below.refl _ _)
        have bl := Box.new wa 41 #[.slice A5 st.length c5, .slice A6 lp.length c6]
        have hSl := hSa.below hbL; have h5 := ho5.below hbL; have h6 := ho6.below hbL
        have hdl := hda.on hbL
        have hchl := hcha.then_below hbL hcha.size
        clear q0 q1 bxh horh hSh hph hdh hchh hfq hpl hlen ho5 ho6 hda hca hSa hcha hbL
        have m0 := bl.d0; have m1 := bl.d1
        have szl : wa.heap.size < (wa.alloc (.cells #[.slice A5 st.length c5, .slice A6 lp.length c6] 41)).heap.size := bl.lt
        go_wp2_with fail
        refine wp_region_held_drew (S := fun w' => w'.cell? ⟨wa.heap.size, 0, none⟩ = some (.slice A5 st.length c5) ∧ w'.cell? ⟨wa.heap.size, 1, none⟩ = some (.slice A6 lp.length c6)) (by kernel_rfl) ⟨m0, m1⟩ (fun hHeld => ?_)
        have hdr : Below (wa.alloc (.cells #[.slice A5 st.length c5, .slice A6 lp.length c6] 41)).heap.size (wa.alloc (.cells #[.slice A5 st.length c5, .slice A6 lp.length c6] 41)) (wa.alloc (.cells #[.slice A5 st.length c5, .slice A6 lp.length c6] 41)).drew := Below.drew (Below.refl _ _)
        replace m0 : (wa.alloc (.cells #[.slice A5 st.length c5, .slice A6 lp.length c6] 41)).drew.cell? _ = some _ := m0
        replace m1 : (wa.alloc (.cells #[.slice A5 st.length c5, .slice A6 lp.length c6] 41)).drew.cell? _ = some _ := m1
        replace bl : Box (wa.alloc (.cells #[.slice A5 st.length c5, .slice A6 lp.length c6] 41)).drew _ _ _ := bl
        replace hSl := hSl.below hdr; replace h5 := h5.below hdr; replace h6 := h6.below hdr
        replace hchl := hchl.then_below hdr hchl.size
        replace hdl := hdl.on hdr
        replace szl : wa.heap.size < (wa.alloc (.cells #[.slice A5 st.length c5, .slice A6 lp.length c6] 41)).drew.heap.size := szl
        clear hdr
        generalize (wa.alloc (.cells #[.slice A5 st.length c5, .slice A6 lp.length c6] 41)).drew = wD at *
        have hem := OI.empty (E := 2) (w := wD) (B := wD.heap.size) (Nat.le_refl _)
        have hbE : Below wD.heap.size wD (wD.alloc (.cells #[] 2)) := below_alloc (Nat.le_refl _) (Below.refl _ _)
        have hrE := h5.below hbE
        refine takeH0 (v := ?_) (by kernel_rfl) (by kernel_rfl) (by kernel_rfl) (fun _ _ _ h => h) hHeld (by rfl) ?_ ?_
        rotate_left; · (intro w hSw; (try dsimp only at hSw); go_simp; try with_reducible rfl)
        try simp only [Act.put, List.setIfInBounds_toArray, List.set_cons_zero, List.set_cons_succ]
        refine takeH2 (v := ?_) (by kernel_rfl) (by kernel_rfl) (by kernel_rfl) (fun _ _ _ h => h) hHeld (by rfl) ?_ ?_
        rotate_left; · (intro w hSw; (try dsimp only at hSw); go_simp; try with_reducible rfl)
        try simp only [Act.put, List.setIfInBounds_toArray, List.set_cons_zero, List.set_cons_succ]
        refine takeH3 (v := ?_) (by kernel_rfl) (by kernel_rfl) (by kernel_rfl) (fun _ _ _ h => h) hHeld (by rfl) ?_ ?_
        rotate_left; · (intro w hSw; (try dsimp only at hSw); go_simp; try with_reducible rfl)
        try simp only [Act.put, List.setIfInBounds_toArray, List.set_cons_zero, List.set_cons_succ]
        refine takeH5 (v := ?_) (by kernel_rfl) (by kernel_rfl) (by kernel_rfl) (fun _ _ _ h => h) hHeld (by rfl) ?_ ?_
        rotate_left; · (intro w hSw; (try dsimp only at hSw); go_simp; try with_reducible rfl)
        try simp only [Act.put, List.setIfInBounds_toArray, List.set_cons_zero, List.set_cons_succ]
        refine takeH6 (v := ?_) (by kernel_rfl) (by kernel_rfl) (by kernel_rfl) (fun _ _ _ h => h) hHeld (by rfl) ?_ ?_
        rotate_left; · (intro w hSw; (try dsimp only at hSw); go_simp; try with_reducible rfl)
        try simp only [Act.put, List.setIfInBounds_toArray, List.set_cons_zero, List.set_cons_succ]
        refine callH1 (by kernel_rfl) (fun K hK => ?_)
        go_simp
        refine hK.out _ _ (⟨keepA m0, keepA m1⟩) (fun hHeld => ?_)
        clear hK K
        try simp only [Act.put, List.setIfInBounds_toArray, List.set_cons_zero, List.set_cons_succ]
        refine callH4 (by kernel_rfl) (fun K hK => ?_)
        refine step_of_list (by rfl) (wp_appI (.tmp 98) (.tmp 100) (by rfl) (wD.alloc (.cells #[] 2)) wD.heap.size (.slice (some ⟨wD.heap.size, 0, none⟩) 0 0) [] (by rfl) hem A5 st.length c5 st (by rfl) hrE.reads (by simp) (by omega) hbE.size ?_)
        intro u2 w2 ho2 hb2' hc2 hat2
        rw [List.nil_append] at ho2
        obtain ⟨Au, cu, rfl⟩ := ho2.form
        have hb2 : Below wD.heap.size wD w2 := hbE.trans hb2'
        have bl2 := bl.below hb2 szl
        have h62 := h6.below hb2
        have S1 := bl2.d0
        have S2 := bl2.d1
        refine hK.out _ _ (⟨S1, S2⟩) (fun hHeld => ?_)
        clear hK K
        try simp only [Act.put, List.setIfInBounds_toArray, List.set_cons_zero, List.set_cons_succ]
        refine callH7 (by kernel_rfl) (fun K hK => ?_)
        refine step_of_list (by rfl) (wp_appI (.tmp 101) (.tmp 103) (by rfl) w2 wD.heap.size (.slice Au st.length cu) st (by rfl) ho2 A6 lp.length c6 lp (by rfl) h62.reads (by omega) (by omega) hb2.size ?_)
        intro u3 w3' ho3' hb3' hc3' hat3
        generalize st ++ lp = sl at *
        obtain ⟨Av, cv, rfl⟩ := ho3'.form
        have hb3 : Below wD.heap.size wD w3' := hb2.trans hb3'
        have bl3 := bl.below hb3 szl
        have S31 := bl3.d0
        have S32 := bl3.d1
        have hS3 := hSl.below hb3
        refine hK.out _ _ (⟨S31, S32⟩) (fun hHeld => ?_)
        clear hK K
        try simp only [Act.put, List.setIfInBounds_toArray, List.set_cons_zero, List.set_cons_succ]
        refine callH8 (by kernel_rfl) (fun K hK => ?_)
        go_simp
        go_at_call 31
        refine (w6Meets _ _ _ _ _ _ sf sl _ hS3.reads ho3'.reads).mono ?_; rintro e w4' ⟨rfl, qm⟩
        rw [EM.out]
        have hbm := below_qt qm hb3
        have blm := bl.below hbm szl
        have S41 := blm.d0
        have S42 := blm.d1
        go_wp2_with fail
        refine hK.out _ _ (⟨S41, S42⟩) (fun hHeld => ?_)
        clear hK K
        try simp only [Act.put, List.setIfInBounds_toArray, List.set_cons_zero, List.set_cons_succ]
        refine takeH9 (v := ?_) (by kernel_rfl) (by kernel_rfl) (by kernel_rfl) (fun _ _ _ h => h) hHeld (by rfl) ?_ ?_
        rotate_left; · (intro w hSw; (try dsimp only at hSw); go_simp; try with_reducible rfl)
        try simp only [Act.put, List.setIfInBounds_toArray, List.set_cons_zero, List.set_cons_succ]
        refine wpAnyH_done (by kernel_rfl) ?_ _
        have hdm := hdl.on hbm
        have hchm := hchl.then_below hbm hchl.size
        clear qm
        go_wp2
        go_roundw
        case rel => exact ⟨v + 1, by omega, by go_num, hdm, hchm⟩
        case measure => simp [intOf]; omega
      | false =>
        have HM := Lib.hid hm
        clear hm
        go_wp2_with fail
        refine (w6Has _ _ _ W _ _ hWr.reads).mono ?_; rintro e wh ⟨rfl, qh⟩
        rw [HM.out]
        have hbh := below_qt qh (Below.refl wr.heap.size wr)
        have bxh := bxr.below hbh bxr.lt
        have horh := hor.below hbh; have hSh := hSr.below hbh; have hph := hTr.below hbh
        have hdh := hd.on hbh
        have hchh := hch.then_below hbh hch.size
        have szh := hchh.size
        clear q0 q1 bxr hor hSr hWr hPr hTr hd qh hbh
        have q0 := bxh.d0; have q1 := bxh.d1
        go_wp2_with fail
        refine (w6Against _ _ _ z (1 - who) PT v w1 _ b _ _ hdh horh (by omega) hph (by omega) HAR.out (by omega) HFT.out hvl).mono ?_; rintro e wa ⟨v0, v1, st, lp, q, rfl, hfq, hpl, hlen, ho5, ho6, hda, hca⟩
        have EM := Lib.hid (show meetB sf (st ++ lp) = false from L2.out v hvl HM.out q st lp hfq hpl)
        obtain ⟨A5, c5, rfl⟩ := ho5.form
        obtain ⟨A6, c6, rfl⟩ := ho6.form
        have hl5 := hlen.1; have hl6 := hlen.2
        have hSa := hSh.chg hca (fun y hy e => by have := (hSh.lt y hy).1; have h3 : y = b := e; omega)
        have hcha := chg_then hchh hca
        have sza := hca.size
        have hbL : Below wa.heap.size wa (wa.alloc (.cells #[.slice A5 st.length c5, .slice A6 lp.length c6] 41)) := below_alloc (Nat.le_refl _) (Below.refl _ _)
        have bl := Box.new wa 41 #[.slice A5 st.length c5, .slice A6 lp.length c6]
        have hSl := hSa.below hbL; have h5 := ho5.below hbL; have h6 := ho6.below hbL
        have hdl := hda.on hbL
        have hchl := hcha.then_below hbL hcha.size
        clear q0 q1 bxh horh hSh hph hdh hchh hfq hpl hlen ho5 ho6 hda hca hSa hcha hbL
        have m0 := bl.d0; have m1 := bl.d1
        have szl : wa.heap.size < (wa.alloc (.cells #[.slice A5 st.length c5, .slice A6 lp.length c6] 41)).heap.size := bl.lt
        go_wp2_with fail
        refine wp_region_held_drew (S := fun w' => w'.cell? ⟨wa.heap.size, 0, none⟩ = some (.slice A5 st.length c5) ∧ w'.cell? ⟨wa.heap.size, 1, none⟩ = some (.slice A6 lp.length c6)) (by kernel_rfl) ⟨m0, m1⟩ (fun hHeld => ?_)
        have hdr : Below (wa.alloc (.cells #[.slice A5 st.length c5, .slice A6 lp.length c6] 41)).heap.size (wa.alloc (.cells #[.slice A5 st.length c5, .slice A6 lp.length c6] 41)) (wa.alloc (.cells #[.slice A5 st.length c5, .slice A6 lp.length c6] 41)).drew := Below.drew (Below.refl _ _)
        replace m0 : (wa.alloc (.cells #[.slice A5 st.length c5, .slice A6 lp.length c6] 41)).drew.cell? _ = some _ := m0
        replace m1 : (wa.alloc (.cells #[.slice A5 st.length c5, .slice A6 lp.length c6] 41)).drew.cell? _ = some _ := m1
        replace bl : Box (wa.alloc (.cells #[.slice A5 st.length c5, .slice A6 lp.length c6] 41)).drew _ _ _ := bl
        replace hSl := hSl.below hdr; replace h5 := h5.below hdr; replace h6 := h6.below hdr
        replace hchl := hchl.then_below hdr hchl.size
        replace hdl := hdl.on hdr
        replace szl : wa.heap.size < (wa.alloc (.cells #[.slice A5 st.length c5, .slice A6 lp.length c6] 41)).drew.heap.size := szl
        clear hdr
        generalize (wa.alloc (.cells #[.slice A5 st.length c5, .slice A6 lp.length c6] 41)).drew = wD at *
        have hem := OI.empty (E := 2) (w := wD) (B := wD.heap.size) (Nat.le_refl _)
        have hbE : Below wD.heap.size wD (wD.alloc (.cells #[] 2)) := below_alloc (Nat.le_refl _) (Below.refl _ _)
        have hrE := h5.below hbE
        refine takeH0 (v := ?_) (by kernel_rfl) (by kernel_rfl) (by kernel_rfl) (fun _ _ _ h => h) hHeld (by rfl) ?_ ?_
        rotate_left; · (intro w hSw; (try dsimp only at hSw); go_simp; try with_reducible rfl)
        try simp only [Act.put, List.setIfInBounds_toArray, List.set_cons_zero, List.set_cons_succ]
        refine takeH2 (v := ?_) (by kernel_rfl) (by kernel_rfl) (by kernel_rfl) (fun _ _ _ h => h) hHeld (by rfl) ?_ ?_
        rotate_left; · (intro w hSw; (try dsimp only at hSw); go_simp; try with_reducible rfl)
        try simp only [Act.put, List.setIfInBounds_toArray, List.set_cons_zero, List.set_cons_succ]
        refine takeH3 (v := ?_) (by kernel_rfl) (by kernel_rfl) (by kernel_rfl) (fun _ _ _ h => h) hHeld (by rfl) ?_ ?_
        rotate_left; · (intro w hSw; (try dsimp only at hSw); go_simp; try with_reducible rfl)
        try simp only [Act.put, List.setIfInBounds_toArray, List.set_cons_zero, List.set_cons_succ]
        refine takeH5 (v := ?_) (by kernel_rfl) (by kernel_rfl) (by kernel_rfl) (fun _ _ _ h => h) hHeld (by rfl) ?_ ?_
        rotate_left; · (intro w hSw; (try dsimp only at hSw); go_simp; try with_reducible rfl)
        try simp only [Act.put, List.setIfInBounds_toArray, List.set_cons_zero, List.set_cons_succ]
        refine takeH6 (v := ?_) (by kernel_rfl) (by kernel_rfl) (by kernel_rfl) (fun _ _ _ h => h) hHeld (by rfl) ?_ ?_
        rotate_left; · (intro w hSw; (try dsimp only at hSw); go_simp; try with_reducible rfl)
        try simp only [Act.put, List.setIfInBounds_toArray, List.set_cons_zero, List.set_cons_succ]
        refine callH1 (by kernel_rfl) (fun K hK => ?_)
        go_simp
        refine hK.out _ _ (⟨keepA m0, keepA m1⟩) (fun hHeld => ?_)
        clear hK K
        try simp only [Act.put, List.setIfInBounds_toArray, List.set_cons_zero, List.set_cons_succ]
        refine callH4 (by kernel_rfl) (fun K hK => ?_)
        refine step_of_list (by rfl) (wp_appI (.tmp 115) (.tmp 117) (by rfl) (wD.alloc (.cells #[] 2)) wD.heap.size (.slice (some ⟨wD.heap.size, 0, none⟩) 0 0) [] (by rfl) hem A5 st.length c5 st (by rfl) hrE.reads (by simp) (by omega) hbE.size ?_)
        intro u2 w2 ho2 hb2' hc2 hat2
        rw [List.nil_append] at ho2
        obtain ⟨Au, cu, rfl⟩ := ho2.form
        have hb2 : Below wD.heap.size wD w2 := hbE.trans hb2'
        have bl2 := bl.below hb2 szl
        have h62 := h6.below hb2
        have S1 := bl2.d0
        have S2 := bl2.d1
        refine hK.out _ _ (⟨S1, S2⟩) (fun hHeld => ?_)
        clear hK K
        try simp only [Act.put, List.setIfInBounds_toArray, List.set_cons_zero, List.set_cons_succ]
        refine callH7 (by kernel_rfl) (fun K hK => ?_)
        refine step_of_list (by rfl) (wp_appI (.tmp 118) (.tmp 120) (by rfl) w2 wD.heap.size (.slice Au st.length cu) st (by rfl) ho2 A6 lp.length c6 lp (by rfl) h62.reads (by omega) (by omega) hb2.size ?_)
        intro u3 w3' ho3' hb3' hc3' hat3
        generalize st ++ lp = sl at *
        obtain ⟨Av, cv, rfl⟩ := ho3'.form
        have hb3 : Below wD.heap.size wD w3' := hb2.trans hb3'
        have bl3 := bl.below hb3 szl
        have S31 := bl3.d0
        have S32 := bl3.d1
        have hS3 := hSl.below hb3
        refine hK.out _ _ (⟨S31, S32⟩) (fun hHeld => ?_)
        clear hK K
        try simp only [Act.put, List.setIfInBounds_toArray, List.set_cons_zero, List.set_cons_succ]
        refine callH8 (by kernel_rfl) (fun K hK => ?_)
        go_simp
        go_at_call 31
        refine (w6Meets _ _ _ _ _ _ sf sl _ hS3.reads ho3'.reads).mono ?_; rintro e w4' ⟨rfl, qm⟩
        rw [EM.out]
        have hbm := below_qt qm hb3
        have blm := bl.below hbm szl
        have S41 := blm.d0
        have S42 := blm.d1
        go_wp2_with fail
        refine hK.out _ _ (⟨S41, S42⟩) (fun hHeld => ?_)
        clear hK K
        try simp only [Act.put, List.setIfInBounds_toArray, List.set_cons_zero, List.set_cons_succ]
        refine wpAnyH_done (by kernel_rfl) ?_ _
        have hdm := hdl.on hbm
        have hchm := hchl.then_below hbm hchl.size
        clear qm
        go_wp2
        go_roundw
        case rel => exact ⟨v + 1, by omega, by go_num, hdm, hchm⟩
        case measure => simp [intOf]; omega
    · obtain rfl : v = z.1.length := by omega
      have hwr : Below w.heap.size w wr := hw21.trans (hch.below hw21.size (fun x hx => by have h3 : x = b := hx; omega))
      go_wp2
      go_ret
      exact ⟨rfl, hwr⟩

theorem own : ownKnob Try.prog.godebug = none := by kernel_rfl
theorem laidOut : laidOutB Try.prog = true := by kernel_rfl
set_option maxRecDepth 100000 in
theorem lifted (os : Os) (started : os.Started) (H : Type) (enc : TypeId × Value → H) :
    ReturnsInHanded {} Try.checked os 3 .any (Rows.fnReachSpec.pre6 enc Try.prog Try.f3 Rows.fnReachRow.domain false) (Rows.fnReachSpec.post enc Try.prog Try.f3 false true false false) := by
  refine returnsInHanded_of_change (C := Try.checked) own started (by kernel_rfl) Try.func3
    (ChangeSpec.witness6 (enc := enc) (C := Try.checked) false ⟨#[], #[.slice none 0 0], []⟩ 8 (by kernel_rfl) (by kernel_rfl) (by kernel_rfl) (by kernel_rfl)) ?_
  intro W base args ds gs before hval0 hW hcnd _
  have hval : ∀ (j : Nat) t v, Try.f3.params[j]? = some t → args[j]? = some v → Value.okWide Try.prog W .any base t v := hval0
  have hW' := hW
  obtain ⟨p, q, hA0, hV, rfl, hfz, hnd⟩ := hW
  have hA : DataW.TrodAll enc Try.prog W 0 (fun _ => true) true Try.f3.params.toList args.toList ds p := hA0
  rw [Try.params3] at hA hval
  obtain ⟨v0, vs0, d0, ds0, p0, q0, hargs, rfl, rfl, h0, r0⟩ := trodAll_cons hA
  obtain ⟨rfl, rfl, rfl⟩ := trodAll_nil r0
  obtain rfl : args = #[v0] := by cases args; simp_all
  obtain ⟨rfl, rfl⟩ := trodVars_none hV
  have k0 := h0
  have lt0 : ∀ x ∈ p0, x.block < W.heap.size := by obtain ⟨m, hm⟩ := k0; exact DataW.trod_lt m _ _ _ hm
  obtain ⟨fuel0, hf0⟩ := h0
  obtain ⟨A0, n0, c0, rfl⟩ := okWide_slice Try.underlying22 (hval 0 22 v0 rfl rfl)
  obtain ⟨B0, m0, d0, ps0, e0, rr0⟩ := ry_of_trod (c := .slice A0 n0 c0) Try.underlying22 Try.underlying5 (by kernel_rfl) (by intro; rfl) hf0
  injection e0 with ea0 eb0 ec0
  subst ea0; subst eb0; subst ec0
  clear hA0 hval0
  refine (walk _ _ _ _ W rr0).mono fun e W' ⟨he, bel⟩ => ?_
  subst he
  exact ⟨_, rfl, _, _, _, [], _, [], hW', trodAll_mk1 (shut_bool Try.underlying4 _), (trodAll_cons_mk (Below.trod laidOut (by kernel_rfl) (of_decide_eq_true (by kernel_rfl)) k0 bel lt0) trodAll_mk0), rfl, bel.frame _, fun h => by cases h⟩
theorem over : Rows.fnReachRow.holds Try.pinned (OpenSpec.ofChange Rows.fnReachSpec) :=
  OpenClaim.holds_of_wide 3 Try.f3 rfl rfl rfl rfl rfl rfl rfl ⟨rfl, rfl, rfl, rfl, rfl⟩ rfl rfl rfl rfl rfl (by kernel_rfl) Try.func3 (by kernel_rfl)
    (of_decide_eq_true (by kernel_rfl)) (by unfold Func.isWrapper; first | (rw [if_pos (by decide +kernel)]; kernel_rfl) | (rw [if_neg (by decide +kernel)]; exact ⟨rfl, rfl⟩))
    (fun os started H enc _ => lifted os started H enc)
/-- the statement -/
theorem proved : Rows.FnReachSaid := over
end Go.Proofs.Ytefjhkcafcchlaa.fnReach

