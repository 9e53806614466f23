/- FnOftenParity: for every input the law returns true, and the argument reads as it read before. No condition. -/
import Derived.Test.YtblmcmccdeelgaaBn9
import Derived.Deep.RegionHeld3
namespace Go.Proofs.Ytblmcmccdeelgaa.fnOftenParity
open Go.ChangeShapes Go.WideShapes Go.ChangeAt Go.RowKit

theorem AvI {w : World} {s0 s1 : Value} {o : List Int} {n : List (List Int)} (h : RAv w s0 s1 o n) {A0 A1 : Option Addr} {n0 c0 n1 c1 : Nat} (e0 : s0 = .slice A0 n0 c0) (e1 : s1 = .slice A1 n1 c1) : RI w A0 n0 c0 o ∧ RII w A1 n1 c1 n := by
  obtain ⟨⟨A, a, c, rfl, h1⟩, ⟨B, b, d, rfl, h2⟩⟩ := h
  injection e0 with a1 a2 a3
  injection e1 with b1 b2 b3
  subst a1; subst a2; subst a3; subst b1; subst b2; subst b3
  exact ⟨h1, h2⟩
set_option maxRecDepth 100000 in
set_option maxHeartbeats 3200000 in
theorem walk (A : Option Addr) (n c : Nat) (l : List Int) (w : World) (hy : RY w A n c l) :
    Calls Try.prog 3 #[.slice A n c] w fun e w' => e = .returned (.bool true) ∧ Below w.heap.size w w' := by
  have b1 := hy.cap; have b2 := hy.top
  by_cases hb : 4096 < n
  · have E := Lib.hid (show decide (4096 < n) = true from decide_eq_true hb)
    go_enter Try.func3, Try.ntmps3
    go_wp2_with fail
    refine (big _ _ _ _ _ hy).mono ?_; rintro e w1 ⟨rfl, q1⟩
    rw [E.out]
    go_wp2
    go_ret
    exact ⟨rfl, below_qt q1 (Below.refl _ _)⟩
  have E := Lib.hid (show decide (4096 < n) = false from decide_eq_false hb)
  have hn : n ≤ 4096 := by omega
  clear hb
  go_enter Try.func3, Try.ntmps3
  go_wp2_with fail
  refine (big _ _ _ _ _ hy).mono ?_; rintro e w1 ⟨rfl, q1⟩
  rw [E.out]
  have hw1 := below_qt q1 (Below.refl w.heap.size w)
  have sz1 := hw1.size
  go_wp2_with fail
  refine (roll A n c l _ _ (hy.keep (keeps_below hw1)) hn).mono ?_; rintro e w2 ⟨b, rfl, hd2⟩
  have hw2 := below_then hd2.bel sz1 hw1
  have lo2 := hd2.lo
  have up2 := hd2.lt
  go_wp2_with fail
  refine (w6Arena _ _ b 7 hd2 (by omega) (by omega)).mono ?_; rintro e w3 ⟨s0, s1, z, rfl, ⟨har, hzl⟩, ho3, hd3, hc3⟩
  obtain ⟨A0, c0, A1, c1, rfl, rfl⟩ := ho3.form
  have hw3 : Below w.heap.size w w3 := hw2.trans (hc3.below (by have := hw2.size; omega) (fun x hx => by have h3 : x = b := hx; omega))
  have sz3 := hc3.size
  have hF := fineAr_of har
  obtain ⟨N, hN⟩ : ∃ N, z.1.length = N := ⟨_, rfl⟩
  have hN2 : z.2.length = N := by rw [hF.2.2.1]; exact hN
  rw [hN, hN2] at ho3 ⊢
  have hbA : Below w3.heap.size w3 (w3.alloc (.cells #[.slice A0 N c0, .slice A1 N c1] 30)) := below_alloc (Nat.le_refl _) (Below.refl _ _)
  have bx := Box.new w3 30 #[.slice A0 N c0, .slice A1 N c1]
  have hwA := below_then hbA hw3.size hw3
  have HAR := Lib.hid har
  have HF := Lib.hid hF
  have HN := Lib.hid hN
  have hz8 : N ≤ 7 := by omega
  have hz1 : 1 ≤ N := by have := hF.1; omega
  have q0 := bx.d0
  clear har hF hzl hN hN2
  go_wp2_with fail
  refine (w6Set _ _ b (N : Int) (hd3.on hbA) (by omega) (by omega)).mono ?_; rintro e w5 ⟨vs, sf, rfl, hsf, hoS, hd, hc5⟩
  obtain ⟨As, cs, rfl⟩ := hoS.form
  have hw5 : Below w.heap.size w w5 := hwA.trans (hc5.below hwA.size (fun x hx => by have h3 : x = b := hx; omega))
  replace bx : Box w5 w3.heap.size 30 #[.slice A0 N c0, .slice A1 N c1] := (hc5.block _ bx.lt (fun e => by have h3 : w3.heap.size = b := e; omega)).trans bx
  replace ho3 := (ho3.below hbA).chg hc5 (fun y hy => by have h3 : y = b := hy; omega)
  have RA := ho3.reads
  have RS := hoS.reads
  have HSF : Hid (setB sf (z.1.length : Int) = true) := Lib.hid (by rw [HN.out]; exact hsf)
  have HOK := Lib.hid (oks HAR.out HSF.out)
  have EW := Lib.hid (show oftR z.1 z.2 0 sf = oftL z.1 z.2 0 sf from if_pos HOK.out)
  have EP := Lib.hid (show oftPlanR z.1 z.2 0 sf = oftPlanL z.1 z.2 0 sf from if_pos HOK.out)
  have ET := Lib.hid (show staysPlanR z.1 z.2 0 sf = fill (planV z.1 z.2 0 (levelsL z.1 z.2 0 sf)) z.1.length from if_pos HOK.out)
  have EK := Lib.hid (show staysWonR z.1 z.2 0 sf = wonUp (levelsL z.1 z.2 0 sf) z.1.length from if_pos HOK.out)
  have EO := Lib.hid (show oftenG z sf 2 1 = markedG z sf 2 1 from oftenG_yes HOK.out)
  have ES := Lib.hid (show oftenG z sf 0 1 = markedG z sf 0 1 from oftenG_yes HOK.out)
  have HPO : Hid (parB (markedG z sf 2 1) = true) := Lib.hid (mk_par HAR.out (by omega) (by omega))
  have HPS : Hid (parB (markedG z sf 0 1) = true) := Lib.hid (mk_par HAR.out (by omega) (by omega))
  clear hbA hd3 hc3 hd2 hwA q0 hsf hc5 ho3 hoS hd hw3 hw2 hw1 q1 E lo2 up2 sz1 sz3 hy
  have q0 := bx.d0; have q1 := bx.d1
  go_wp2_with fail
  refine (w6Copy _ _ z _ _ (Nat.le_refl _) RA HF.out).mono ?_; rintro e w6 ⟨t0, t1, rfl, hoX, hb6⟩
  have hw6 := below_then hb6 hw5.size hw5
  replace bx := bx.on hb6
  replace RA := RA.keep (keeps_below hb6)
  replace RS := RS.keep (keeps_below hb6)
  have RX := hoX.reads
  clear hoX
  clear q0 q1 hb6 hw5
  have q0 := bx.d0; have q1 := bx.d1
  go_wp2_with fail
  refine (implOftenGame _ _ _ _ _ z sf _ _ (Nat.le_refl _) RX RS).mono ?_; rintro e w7 ⟨t0, t1, t2, rfl, hoG, hb7⟩
  rw [EO.out] at hoG
  obtain ⟨Gbo0, gbo0, Gbo1, gbo1, Gbo2, gbo2, rfl, rfl, rfl⟩ := hoG.form
  have hl0 : (markedG z sf 2 1).1.length = N := HN.out
  have hl1 : (markedG z sf 2 1).2.1.length = N := by have := HF.out.2.2.1; exact this.trans HN.out
  have hl2 : (markedG z sf 2 1).2.2.length = N := (prioUp_len _ _ _ _).trans HN.out
  rw [hl0, hl1, hl2] at hoG ⊢
  clear hl0 hl1 hl2
  have hb7a : Below w7.heap.size w7 (w7.alloc (.cells #[.slice Gbo0 N gbo0, .slice Gbo1 N gbo1, .slice Gbo2 N gbo2] 34)) := below_alloc (Nat.le_refl _) (Below.refl _ _)
  have hw7 := below_then hb7 hw6.size hw6
  replace hw7 := below_then hb7a hw7.size hw7
  replace bx := (bx.on hb7).on hb7a
  replace RA := (RA.keep (keeps_below hb7)).keep (keeps_below hb7a)
  replace RS := (RS.keep (keeps_below hb7)).keep (keeps_below hb7a)
  have bo := Box.new w7 34 #[.slice Gbo0 N gbo0, .slice Gbo1 N gbo1, .slice Gbo2 N gbo2]
  have RPo := hoG.reads.keep (keeps_below hb7a)
  clear q0 q1 hb7 hb7a hw6 hoG RX
  have q0 := bx.d0; have q1 := bx.d1; have bo0 := bo.c0; have bo1 := bo.c1; have bo2 := bo.c2
  go_wp2_with fail
  generalize hW : w7.alloc (.cells #[.slice Gbo0 N gbo0, .slice Gbo1 N gbo1, .slice Gbo2 N gbo2] 34) = W7 at *
  clear hW
  refine (w6Copy _ _ z _ _ (Nat.le_refl _) RA HF.out).mono ?_; rintro e w8 ⟨t0, t1, rfl, hoX, hb8⟩
  have hw8 := below_then hb8 hw7.size hw7
  replace bx := bx.on hb8
  replace bo := bo.on hb8
  replace RA := RA.keep (keeps_below hb8)
  replace RS := RS.keep (keeps_below hb8)
  replace RPo := RPo.keep (keeps_below hb8)
  have RX := hoX.reads
  clear hoX
  clear q0 q1 bo0 bo1 bo2 hb8 hw7
  have q0 := bx.d0; have q1 := bx.d1; have bo0 := bo.c0; have bo1 := bo.c1; have bo2 := bo.c2
  go_wp2_with fail
  refine (implStaysGame _ _ _ _ _ z sf _ _ (Nat.le_refl _) RX RS).mono ?_; rintro e w9 ⟨t0, t1, t2, rfl, hoG, hb9⟩
  rw [ES.out] at hoG
  obtain ⟨Gbs0, gbs0, Gbs1, gbs1, Gbs2, gbs2, rfl, rfl, rfl⟩ := hoG.form
  have hl0 : (markedG z sf 0 1).1.length = N := HN.out
  have hl1 : (markedG z sf 0 1).2.1.length = N := by have := HF.out.2.2.1; exact this.trans HN.out
  have hl2 : (markedG z sf 0 1).2.2.length = N := (prioUp_len _ _ _ _).trans HN.out
  rw [hl0, hl1, hl2] at hoG ⊢
  clear hl0 hl1 hl2
  have hb9a : Below w9.heap.size w9 (w9.alloc (.cells #[.slice Gbs0 N gbs0, .slice Gbs1 N gbs1, .slice Gbs2 N gbs2] 34)) := below_alloc (Nat.le_refl _) (Below.refl _ _)
  have hw9 := below_then hb9 hw8.size hw8
  replace hw9 := below_then hb9a hw9.size hw9
  replace bx := (bx.on hb9).on hb9a
  replace bo := (bo.on hb9).on hb9a
  replace RA := (RA.keep (keeps_below hb9)).keep (keeps_below hb9a)
  replace RS := (RS.keep (keeps_below hb9)).keep (keeps_below hb9a)
  replace RPo := (RPo.keep (keeps_below hb9)).keep (keeps_below hb9a)
  have bs := Box.new w9 34 #[.slice Gbs0 N gbs0, .slice Gbs1 N gbs1, .slice Gbs2 N gbs2]
  have RPs := hoG.reads.keep (keeps_below hb9a)
  clear q0 q1 bo0 bo1 bo2 hb9 hb9a hw8 hoG RX
  have q0 := bx.d0; have q1 := bx.d1; have bo0 := bo.c0; have bo1 := bo.c1; have bo2 := bo.c2; have bs0 := bs.c0; have bs1 := bs.c1; have bs2 := bs.c2
  go_wp2_with fail
  generalize hW : w9.alloc (.cells #[.slice Gbs0 N gbs0, .slice Gbs1 N gbs1, .slice Gbs2 N gbs2] 34) = W9 at *
  clear hW
  refine (specParityOk _ _ _ (markedG z sf 2 1) _ _ (Nat.le_refl _) RPo).mono ?_; rintro e w10 ⟨rfl, hb10⟩
  have hw10 := below_then hb10 hw9.size hw9
  replace bx := bx.on hb10
  replace bo := bo.on hb10
  replace bs := bs.on hb10
  replace RA := RA.keep (keeps_below hb10)
  replace RS := RS.keep (keeps_below hb10)
  replace RPo := RPo.keep (keeps_below hb10)
  replace RPs := RPs.keep (keeps_below hb10)
  rw [HPO.out]
  clear q0 q1 bo0 bo1 bo2 bs0 bs1 bs2 hb10 hw9
  have q0 := bx.d0; have q1 := bx.d1; have bo0 := bo.c0; have bo1 := bo.c1; have bo2 := bo.c2; have bs0 := bs.c0; have bs1 := bs.c1; have bs2 := bs.c2
  go_wp2_with fail
  refine (specParityOk _ _ _ (markedG z sf 0 1) _ _ (Nat.le_refl _) RPs).mono ?_; rintro e w11 ⟨rfl, hb11⟩
  have hw11 := below_then hb11 hw10.size hw10
  replace bx := bx.on hb11
  replace bo := bo.on hb11
  replace bs := bs.on hb11
  replace RA := RA.keep (keeps_below hb11)
  replace RS := RS.keep (keeps_below hb11)
  replace RPo := RPo.keep (keeps_below hb11)
  replace RPs := RPs.keep (keeps_below hb11)
  rw [HPS.out]
  clear q0 q1 bo0 bo1 bo2 bs0 bs1 bs2 hb11 hw10
  have q0 := bx.d0; have q1 := bx.d1; have bo0 := bo.c0; have bo1 := bo.c1; have bo2 := bo.c2; have bs0 := bs.c0; have bs1 := bs.c1; have bs2 := bs.c2
  go_wp2_with fail
  refine (sameArena _ _ _ _ z _ _ (Nat.le_refl _) RPo.1 RA HAR.out).mono ?_; rintro e w12 ⟨rfl, hb12⟩
  have hw12 := below_then hb12 hw11.size hw11
  replace bx := bx.on hb12
  replace bo := bo.on hb12
  replace bs := bs.on hb12
  replace RA := RA.keep (keeps_below hb12)
  replace RS := RS.keep (keeps_below hb12)
  replace RPo := RPo.keep (keeps_below hb12)
  replace RPs := RPs.keep (keeps_below hb12)
  clear q0 q1 bo0 bo1 bo2 bs0 bs1 bs2 hb12 hw11
  have q0 := bx.d0; have q1 := bx.d1; have bo0 := bo.c0; have bo1 := bo.c1; have bo2 := bo.c2; have bs0 := bs.c0; have bs1 := bs.c1; have bs2 := bs.c2
  go_wp2_with fail
  refine (sameArena _ _ _ _ z _ _ (Nat.le_refl _) RPs.1 RA HAR.out).mono ?_; rintro e w13 ⟨rfl, hb13⟩
  have hw13 := below_then hb13 hw12.size hw12
  replace bx := bx.on hb13
  replace bo := bo.on hb13
  replace bs := bs.on hb13
  replace RA := RA.keep (keeps_below hb13)
  replace RS := RS.keep (keeps_below hb13)
  replace RPo := RPo.keep (keeps_below hb13)
  replace RPs := RPs.keep (keeps_below hb13)
  clear q0 q1 bo0 bo1 bo2 bs0 bs1 bs2 hb13 hw12
  have q0 := bx.d0; have q1 := bx.d1; have bo0 := bo.c0; have bo1 := bo.c1; have bo2 := bo.c2; have bs0 := bs.c0; have bs1 := bs.c1; have bs2 := bs.c2
  go_wp2_with fail
  refine (w6Copy _ _ z _ _ (Nat.le_refl _) RA HF.out).mono ?_; rintro e w14 ⟨t0, t1, rfl, hoX, hb14⟩
  have hw14 := below_then hb14 hw13.size hw13
  replace bx := bx.on hb14
  replace bo := bo.on hb14
  replace bs := bs.on hb14
  replace RA := RA.keep (keeps_below hb14)
  replace RS := RS.keep (keeps_below hb14)
  replace RPo := RPo.keep (keeps_below hb14)
  replace RPs := RPs.keep (keeps_below hb14)
  have RX := hoX.reads
  clear hoX
  clear q0 q1 bo0 bo1 bo2 bs0 bs1 bs2 hb14 hw13
  have q0 := bx.d0; have q1 := bx.d1; have bo0 := bo.c0; have bo1 := bo.c1; have bo2 := bo.c2; have bs0 := bs.c0; have bs1 := bs.c1; have bs2 := bs.c2
  go_wp2_with fail
  refine (implOftenWon _ _ z 0 _ _ _ sf _ _ (Nat.le_refl _) RX RS).mono ?_; rintro e w15 ⟨vw, rfl, hoW, hb15⟩
  have hw15 := below_then hb15 hw14.size hw14
  replace bx := bx.on hb15
  replace bo := bo.on hb15
  replace bs := bs.on hb15
  replace RA := RA.keep (keeps_below hb15)
  replace RS := RS.keep (keeps_below hb15)
  replace RPo := RPo.keep (keeps_below hb15)
  replace RPs := RPs.keep (keeps_below hb15)
  rw [EW.out] at hoW
  obtain ⟨Aw, cw, rfl⟩ := hoW.form
  have RW := hoW.reads
  clear hoW RX
  clear q0 q1 bo0 bo1 bo2 bs0 bs1 bs2 hb15 hw14
  have q0 := bx.d0; have q1 := bx.d1; have bo0 := bo.c0; have bo1 := bo.c1; have bo2 := bo.c2; have bs0 := bs.c0; have bs1 := bs.c1; have bs2 := bs.c2
  go_wp2_with fail
  refine (w6Copy _ _ z _ _ (Nat.le_refl _) RA HF.out).mono ?_; rintro e w16 ⟨t0, t1, rfl, hoX, hb16⟩
  have hw16 := below_then hb16 hw15.size hw15
  replace bx := bx.on hb16
  replace bo := bo.on hb16
  replace bs := bs.on hb16
  replace RA := RA.keep (keeps_below hb16)
  replace RS := RS.keep (keeps_below hb16)
  replace RPo := RPo.keep (keeps_below hb16)
  replace RPs := RPs.keep (keeps_below hb16)
  replace RW := RW.keep (keeps_below hb16)
  have RX := hoX.reads
  clear hoX
  clear q0 q1 bo0 bo1 bo2 bs0 bs1 bs2 hb16 hw15
  have q0 := bx.d0; have q1 := bx.d1; have bo0 := bo.c0; have bo1 := bo.c1; have bo2 := bo.c2; have bs0 := bs.c0; have bs1 := bs.c1; have bs2 := bs.c2
  go_wp2_with fail
  refine (implStaysWon _ _ z 0 _ _ _ sf _ _ (Nat.le_refl _) RX RS).mono ?_; rintro e w17 ⟨vk, rfl, hoK, hb17⟩
  have hw17 := below_then hb17 hw16.size hw16
  replace bx := bx.on hb17
  replace bo := bo.on hb17
  replace bs := bs.on hb17
  replace RA := RA.keep (keeps_below hb17)
  replace RS := RS.keep (keeps_below hb17)
  replace RPo := RPo.keep (keeps_below hb17)
  replace RPs := RPs.keep (keeps_below hb17)
  replace RW := RW.keep (keeps_below hb17)
  rw [EK.out] at hoK
  obtain ⟨Ak, ck, rfl⟩ := hoK.form
  have RK := hoK.reads
  clear hoK RX
  clear q0 q1 bo0 bo1 bo2 bs0 bs1 bs2 hb17 hw16
  have q0 := bx.d0; have q1 := bx.d1; have bo0 := bo.c0; have bo1 := bo.c1; have bo2 := bo.c2; have bs0 := bs.c0; have bs1 := bs.c1; have bs2 := bs.c2
  go_wp2_with fail
  have hx : Below w17.heap.size w17 w17 := Below.refl _ _
  have ER1 := Lib.hid (show regU (wonL (markedG z sf 2 1)) 0 N = oftL z.1 z.2 0 sf by rw [← HN.out]; exact oft_region HAR.out)
  have ER2 := Lib.hid (show regU (wonL (markedG z sf 0 1)) 0 N = wonUp (levelsL z.1 z.2 0 sf) z.1.length by rw [← HN.out]; exact st_region HAR.out HSF.out)
  have hN256 : N ≤ 256 := by omega
  have HS : ∀ wx, Below w17.heap.size w17 wx → (wx.cell? ⟨w3.heap.size, 0, none⟩ = some (.slice A0 N c0) ∧ wx.cell? ⟨w3.heap.size, 1, none⟩ = some (.slice A1 N c1) ∧ wx.cell? ⟨w7.heap.size, 0, none⟩ = some (.slice Gbo0 N gbo0) ∧ wx.cell? ⟨w7.heap.size, 1, none⟩ = some (.slice Gbo1 N gbo1) ∧ wx.cell? ⟨w7.heap.size, 2, none⟩ = some (.slice Gbo2 N gbo2) ∧ wx.cell? ⟨w9.heap.size, 0, none⟩ = some (.slice Gbs0 N gbs0) ∧ wx.cell? ⟨w9.heap.size, 1, none⟩ = some (.slice Gbs1 N gbs1) ∧ wx.cell? ⟨w9.heap.size, 2, none⟩ = some (.slice Gbs2 N gbs2)) := fun wx h => ⟨keeps_below h _ _ q0, keeps_below h _ _ q1, keeps_below h _ _ bo0, keeps_below h _ _ bo1, keeps_below h _ _ bo2, keeps_below h _ _ bs0, keeps_below h _ _ bs1, keeps_below h _ _ bs2⟩
  have H3 := Lib.hid HS
  clear HS bx bo bs
  go_region_held3 (fun w' => w'.cell? ⟨w3.heap.size, 0, none⟩ = some (.slice A0 N c0) ∧ w'.cell? ⟨w3.heap.size, 1, none⟩ = some (.slice A1 N c1) ∧ w'.cell? ⟨w7.heap.size, 0, none⟩ = some (.slice Gbo0 N gbo0) ∧ w'.cell? ⟨w7.heap.size, 1, none⟩ = some (.slice Gbo1 N gbo1) ∧ w'.cell? ⟨w7.heap.size, 2, none⟩ = some (.slice Gbo2 N gbo2) ∧ w'.cell? ⟨w9.heap.size, 0, none⟩ = some (.slice Gbs0 N gbs0) ∧ w'.cell? ⟨w9.heap.size, 1, none⟩ = some (.slice Gbs1 N gbs1) ∧ w'.cell? ⟨w9.heap.size, 2, none⟩ = some (.slice Gbs2 N gbs2))
    (refine ⟨?_, ?_, ?_, ?_, ?_, ?_, ?_, ?_⟩ <;> repeat (first | with_reducible assumption | with_reducible refine keepD ?_ | with_reducible refine keepA ?_))
    (first
    | (go_at_call 9
       refine (w6Copy _ _ z _ _ (Nat.le_refl _) (RA.keep (keeps_below (by first | with_reducible exact hx | with_reducible exact below_drewN hx _ | with_reducible exact Below.drew hx))) HF.out).mono ?_
       rintro e wq ⟨x0, x1, rfl, hoX, hbq⟩
       have RX := hoX.reads
       replace hx : Below w17.heap.size w17 wq := (by first | exact below_then hbq hx.size hx | exact below_then (below_undrew hbq) hx.size hx)
       obtain ⟨z0, z1, z2, z3, z4, z5, z6, z7⟩ := H3.out wq hx)
    | (go_at_call 16
       refine (implOftenPlan _ _ z 0 _ _ _ sf _ _ (Nat.le_refl _) (RX.keep (keeps_below (by first | with_reducible exact Below.refl _ _ | with_reducible exact below_drewN (Below.refl _ _) _ | with_reducible exact Below.drew (Below.refl _ _)))) (RS.keep (keeps_below (by first | with_reducible exact hx | with_reducible exact below_drewN hx _ | with_reducible exact Below.drew hx)))).mono ?_
       rintro e wq ⟨vp, rfl, hoP, hbq⟩
       rw [EP.out] at hoP
       obtain ⟨Ap, cp, rfl⟩ := hoP.form
       have RP := hoP.reads
       replace hx : Below w17.heap.size w17 wq := (by first | exact below_then hbq hx.size hx | exact below_then (below_undrew hbq) hx.size hx)
       obtain ⟨z0, z1, z2, z3, z4, z5, z6, z7⟩ := H3.out wq hx)
    | (go_at_call 20
       refine (implStaysPlan _ _ z 0 _ _ _ sf _ _ (Nat.le_refl _) (RX.keep (keeps_below (by first | with_reducible exact Below.refl _ _ | with_reducible exact below_drewN (Below.refl _ _) _ | with_reducible exact Below.drew (Below.refl _ _)))) (RS.keep (keeps_below (by first | with_reducible exact hx | with_reducible exact below_drewN hx _ | with_reducible exact Below.drew hx)))).mono ?_
       rintro e wq ⟨vp, rfl, hoP, hbq⟩
       rw [ET.out] at hoP
       obtain ⟨Ap, cp, rfl⟩ := hoP.form
       have RP := hoP.reads
       replace hx : Below w17.heap.size w17 wq := (by first | exact below_then hbq hx.size hx | exact below_then (below_undrew hbq) hx.size hx)
       obtain ⟨z0, z1, z2, z3, z4, z5, z6, z7⟩ := H3.out wq hx)
    | (go_at_call 15
       refine (winsBy _ _ _ _ _ _ _ _ _ _ _ _ _ _ _ (Nat.le_refl _) (by first | with_reducible exact RPo.keep (keeps_below (by first | with_reducible exact hx | with_reducible exact below_drewN hx _ | with_reducible exact Below.drew hx)) | with_reducible exact RPs.keep (keeps_below (by first | with_reducible exact hx | with_reducible exact below_drewN hx _ | with_reducible exact Below.drew hx))) (by first | with_reducible exact RW.keep (keeps_below (by first | with_reducible exact hx | with_reducible exact below_drewN hx _ | with_reducible exact Below.drew hx)) | with_reducible exact RK.keep (keeps_below (by first | with_reducible exact hx | with_reducible exact below_drewN hx _ | with_reducible exact Below.drew hx))) (RP.keep (keeps_below (by first | with_reducible exact Below.refl _ _ | with_reducible exact below_drewN (Below.refl _ _) _ | with_reducible exact Below.drew (Below.refl _ _)))) (by first | exact oft_right HAR.out | exact st_right HAR.out) (by first | exact oft_nobad HAR.out | exact st_nobad HAR.out) (by first | exact oft_closed HAR.out | exact st_closed HAR.out)).mono ?_
       rintro e wq ⟨rfl, hbq⟩
       replace hx : Below w17.heap.size w17 wq := (by first | exact below_then hbq hx.size hx | exact below_then (below_undrew hbq) hx.size hx)
       obtain ⟨z0, z1, z2, z3, z4, z5, z6, z7⟩ := H3.out wq hx)
    | (go_at_call 19
       refine (solvedN _ _ _ _ N _ _ (Nat.le_refl _) (by first | with_reducible exact RPo.keep (keeps_below (by first | with_reducible exact hx | with_reducible exact below_drewN hx _ | with_reducible exact Below.drew hx)) | with_reducible exact RPs.keep (keeps_below (by first | with_reducible exact hx | with_reducible exact below_drewN hx _ | with_reducible exact Below.drew hx))) (by first | exact HPO.out | exact HPS.out) (by exact HN.out)).mono ?_
       rintro e wq ⟨X, Y, x, y, rfl, ow, hbq⟩
       have RWo := ow.reads
       replace hx : Below w17.heap.size w17 wq := (by first | exact below_then hbq hx.size hx | exact below_then (below_undrew hbq) hx.size hx)
       obtain ⟨z0, z1, z2, z3, z4, z5, z6, z7⟩ := H3.out wq hx)
    | (go_at_call 18
       refine (specRegion _ _ _ _ _ _ _ 0 _ _ (Nat.le_refl _) (RWo.keep (keeps_below (by first | with_reducible exact Below.refl _ _ | with_reducible exact below_drewN (Below.refl _ _) _ | with_reducible exact Below.drew (Below.refl _ _)))) hN256).mono ?_
       rintro e wq ⟨vr, rfl, hoR, hbq⟩
       first | rw [ER1.out] at hoR | rw [ER2.out] at hoR
       obtain ⟨Ar, cr, rfl⟩ := hoR.form
       have RR := hoR.reads
       replace hx : Below w17.heap.size w17 wq := (by first | exact below_then hbq hx.size hx | exact below_then (below_undrew hbq) hx.size hx)
       obtain ⟨z0, z1, z2, z3, z4, z5, z6, z7⟩ := H3.out wq hx)
    | (go_at_call 17
       refine (likeInts _ _ _ _ _ _ _ _ _ (RR.keep (keeps_below (by first | with_reducible exact Below.refl _ _ | with_reducible exact below_drewN (Below.refl _ _) _ | with_reducible exact Below.drew (Below.refl _ _)))) (by first | with_reducible exact RW.keep (keeps_below (by first | with_reducible exact hx | with_reducible exact below_drewN hx _ | with_reducible exact Below.drew hx)) | with_reducible exact RK.keep (keeps_below (by first | with_reducible exact hx | with_reducible exact below_drewN hx _ | with_reducible exact Below.drew hx)))).mono ?_
       rintro e wq ⟨rfl, qq⟩
       rw [eqL_self]
       replace hx : Below w17.heap.size w17 wq := below_qt qq (by first | with_reducible exact hx | with_reducible exact below_drewN hx _ | with_reducible exact Below.drew hx)
       obtain ⟨z0, z1, z2, z3, z4, z5, z6, z7⟩ := H3.out wq hx))
  go_wp2
  go_ret
  exact ⟨rfl, below_then hx hw17.size hw17⟩
theorem own : ownKnob Try.prog.godebug = none := by kernel_rfl
theorem laidOut : laidOutB Try.prog = true := by kernel_rfl
set_option maxRecDepth 100000 in
theorem lifted (os : Os) (started : os.Started) (H : Type) (enc : TypeId × Value → H) :
    ReturnsInHanded {} Try.checked os 3 .any (Rows.fnOftenParitySpec.pre6 enc Try.prog Try.f3 Rows.fnOftenParityRow.domain false) (Rows.fnOftenParitySpec.post enc Try.prog Try.f3 false true false false) := by
  refine returnsInHanded_of_change (C := Try.checked) own started (by kernel_rfl) Try.func3
    (ChangeSpec.witness6 (enc := enc) (C := Try.checked) false ⟨#[], #[.slice none 0 0], []⟩ 8 (by kernel_rfl) (by kernel_rfl) (by kernel_rfl) (by kernel_rfl)) ?_
  intro W base args ds gs before hval0 hW hcnd _
  have hval : ∀ (j : Nat) t v, Try.f3.params[j]? = some t → args[j]? = some v → Value.okWide Try.prog W .any base t v := hval0
  have hW' := hW
  obtain ⟨p, q, hA0, hV, rfl, hfz, hnd⟩ := hW
  have hA : DataW.TrodAll enc Try.prog W 0 (fun _ => true) true Try.f3.params.toList args.toList ds p := hA0
  rw [Try.params3] at hA hval
  obtain ⟨v0, vs0, d0, ds0, p0, q0, hargs, rfl, rfl, h0, r0⟩ := trodAll_cons hA
  obtain ⟨rfl, rfl, rfl⟩ := trodAll_nil r0
  obtain rfl : args = #[v0] := by cases args; simp_all
  obtain ⟨rfl, rfl⟩ := trodVars_none hV
  have k0 := h0
  have lt0 : ∀ x ∈ p0, x.block < W.heap.size := by obtain ⟨m, hm⟩ := k0; exact DataW.trod_lt m _ _ _ hm
  obtain ⟨fuel0, hf0⟩ := h0
  obtain ⟨A0, n0, c0, rfl⟩ := okWide_slice Try.underlying22 (hval 0 22 v0 rfl rfl)
  obtain ⟨B0, m0, d0, ps0, e0, rr0⟩ := ry_of_trod (c := .slice A0 n0 c0) Try.underlying22 Try.underlying5 (by kernel_rfl) (by intro; rfl) hf0
  injection e0 with ea0 eb0 ec0
  subst ea0; subst eb0; subst ec0
  clear hA0 hval0
  refine (walk _ _ _ _ W rr0).mono fun e W' ⟨he, bel⟩ => ?_
  subst he
  exact ⟨_, rfl, _, _, _, [], _, [], hW', trodAll_mk1 (shut_bool Try.underlying4 _), (trodAll_cons_mk (Below.trod laidOut (by kernel_rfl) (of_decide_eq_true (by kernel_rfl)) k0 bel lt0) trodAll_mk0), rfl, bel.frame _, fun h => by cases h⟩
theorem over : Rows.fnOftenParityRow.holds Try.pinned (OpenSpec.ofChange Rows.fnOftenParitySpec) :=
  OpenClaim.holds_of_wide 3 Try.f3 rfl rfl rfl rfl rfl rfl rfl ⟨rfl, rfl, rfl, rfl, rfl⟩ rfl rfl rfl rfl rfl (by kernel_rfl) Try.func3 (by kernel_rfl)
    (of_decide_eq_true (by kernel_rfl)) (by unfold Func.isWrapper; first | (rw [if_pos (by decide +kernel)]; kernel_rfl) | (rw [if_neg (by decide +kernel)]; exact ⟨rfl, rfl⟩))
    (fun os started H enc _ => lifted os started H enc)
/-- the statement -/
theorem proved : Rows.FnOftenParitySaid := over
end Go.Proofs.Ytblmcmccdeelgaa.fnOftenParity

