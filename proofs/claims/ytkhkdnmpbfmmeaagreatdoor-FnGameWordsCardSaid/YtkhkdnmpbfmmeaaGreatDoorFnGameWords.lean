/- FnGameWords: for every input the law returns true, and the argument reads as it read before. No condition. -/
import Derived.Test.YtkhkdnmpbfmmeaaGreatDoorBn9
import Derived.Test.YtkhkdnmpbfmmeaaGreatDoorCards
import Derived.Test.YtkhkdnmpbfmmeaaGreatDoorTie
namespace Go.Proofs.YtkhkdnmpbfmmeaaGreatDoor
open Go.RowKit

theorem SpI.whole {l : List UInt8} {D : List (List UInt8)} {f : Nat} (h : SpI 10 l D f l.length) : (spl 10 l).take (anN l) = D := by
  obtain ⟨h0, ⟨h1, h2, h3, h4⟩ | ⟨h1, _⟩⟩ := h
  · rw [List.take_of_length_le (by rw [List.length_drop]; exact Nat.le_refl _)] at h4
    rw [spl_none 10 _ h4] at h3
    unfold anN
    rw [← h3]
    simp
  · omega
set_option maxRecDepth 100000 in
set_option maxHeartbeats 1600000 in
theorem linesL (s : ByteArray) (w : World) (B : Nat) (hB : B ≤ w.heap.size) (hs : s.size ≤ 4000000) :
    Calls Tryz.prog 9 #[.string s] w fun e w' => ∃ v, e = .returned v ∧ OS w' B v ((splT 10 s).take (anN s.data.toList)) ∧ Below B w w' := by
  have HZ := Lib.hid (Lib.size_eq s)
  go_enter Tryz.func9, Tryz.ntmps9
  go_wp2
  go_loopw [3, 4, 5] (fun v fr i wr => ∃ (k f : Nat) (D : List (List UInt8)), k ≤ s.size ∧ i = .int .i64 k ∧ fr = .int .i64 f ∧ SpI 10 s.data.toList D f k ∧ OS wr w.heap.size v (D.map tx) ∧ Below w.heap.size w wr) (fun _ _ i _ => s.size - (intOf i).toNat)
  case atStart => exact ⟨0, 0, [], by omega, rfl, rfl, ⟨by simp, .inl ⟨by omega, by omega, rfl, by simp⟩⟩, OS.empty (Nat.le_refl _), by repeat (first | with_reducible assumption | with_reducible exact Below.refl _ _ | with_reducible refine below_drewN ?_ _ | with_reducible refine Below.drew ?_ | with_reducible refine below_alloc (Nat.le_refl _) ?_)⟩
  case round =>
    obtain ⟨k, f, D, hk, rfl, rfl, hI, ho, hbr⟩ := hrel
    have hsz := hbr.size
    have HI := Lib.hid hI
    obtain ⟨Av, cv', rfl⟩ := ho.form
    by_cases hlt : k < s.size
    · have hle := hI.le (by rw [← HZ.out]; omega)
      obtain ⟨hf, hD⟩ := hle
      have hll : (D.map tx).length ≤ 4194304 := by rw [List.length_map]; omega
      have EX := Lib.hid (tx_ext s f k)
      clear hI
      have hll' : k < s.data.toList.length := by rw [← HZ.out]; exact hlt
      have hlt' : (k : Int) < (s.size : Int) := by omega
      have hlt2 : (k : Int) ≤ (s.size : Int) := by omega
      have hff : (f : Int) ≤ (k : Int) := by omega
      have hab : s.data.toList[k]'hll' = s[k]'hlt := rfl
      by_cases hc : ((s[k]'hlt).toNat : Int) = 10
      · have HE := Lib.hid (show s.data.toList[k]'hll' = 10 by rw [hab, ← UInt8.toNat_inj]; show (s[k]'hlt).toNat = 10; omega)
        have hc1 : (((s[k]'hlt).toNat : Int) == 10) = true := by simp [hc]
        clear hc hab
        go_wp2_with ((at_builtin; refine wpList_pushS rfl (.tmp 17) (.tmp 22) rfl wr w.heap.size (.slice Av (D.map tx).length cv') (D.map tx) rfl ho _ rfl hll hsz ?_; intro v' w2 ho2 hb2 hc2 hv2))
        go_roundw
        case rel =>
          refine ⟨k + 1, k + 1, D ++ [(s.data.toList.drop f).take (k - f)], by omega, by go_num, by go_num, HI.out.cut _ HE.out, ?_, hbr.trans hb2⟩
          rw [List.map_append]
          show OS w2 w.heap.size v' (D.map tx ++ [tx ((s.data.toList.drop f).take (k - f))])
          rw [← EX.out]
          exact ho2
        case measure => simp [intOf]; omega
      · have HE := Lib.hid (show s.data.toList[k]'hll' ≠ 10 from fun e => hc (by rw [← hab, e]; rfl))
        have hc1 : (((s[k]'hlt).toNat : Int) == 10) = false := by simp [hc]
        clear hc hab
        go_wp2
        go_roundw
        case rel => exact ⟨k + 1, f, D, by omega, by go_num, rfl, HI.out.go _ HE.out, ho, hbr⟩
        case measure => simp [intOf]; omega
    · have HK := Lib.hid (show k = s.data.toList.length by rw [← HZ.out]; omega)
      have E : Hid ((spl 10 s.data.toList).take (anN s.data.toList) = D) := Lib.hid (by have e := HI.out; rw [HK.out] at e; exact e.whole)
      clear hI
      go_wp2
      go_ret
      refine ⟨_, rfl, ?_, hbr.mono hB⟩
      unfold splT
      rw [← List.map_take, E.out]
      exact ho.more hB
/-- the lines of a game's text -/
theorem lines_back {g : ParD} (hp : parB g = true) : (splT 10 (tx (gmT g))).take (anN (tx (gmT g)).data.toList) = (gLs g g.1.length).map tx := by
  have hc := gLs_clean (finePar_of hp)
  rw [tx_data, gmT_yes hp, gm_unl, unl_anN hc]
  unfold splT
  rw [tx_data, unl_spl _ hc, ← List.map_take]
  congr 1
  simp
theorem gt_map (ls : List (List UInt8)) (i : Nat) : gt (ls.map tx) i = tx (gx ls i) := by
  unfold gt gx
  rw [List.getD_eq_getElem?_getD, List.getD_eq_getElem?_getD, List.getElem?_map]
  cases ls[i]? <;> rfl
theorem sol_shape {g : ParD} {plan : List Int} (h : g.1.length ≤ 8) (hp : plan.length = g.1.length ∧ ∀ v, v < g.1.length → -1 ≤ gi plan v ∧ gi plan v < g.1.length) : shapeOk (wonL g) plan = true ∧ ∀ u ∈ plan, -1 ≤ u ∧ u < 256 := by
  have h2 : ∀ u ∈ plan, -1 ≤ u ∧ u < 256 := fun u hu => by
    obtain ⟨i, hi, rfl⟩ := mem_gi hu
    have := hp.2 i (by omega)
    omega
  refine ⟨decide_eq_true ⟨by rw [wonL_len]; omega, by rw [wonL_len, hp.1], fun x hx => ?_, h2⟩, h2⟩
  obtain ⟨i, hi, rfl⟩ := mem_gi hx
  rw [wonL_len] at hi
  rw [wonL_at hi]
  exact wonV_01 g i
end Go.Proofs.YtkhkdnmpbfmmeaaGreatDoor
namespace Go.Proofs.YtkhkdnmpbfmmeaaGreatDoor.fnGameWords
open Go.ChangeShapes Go.WideShapes Go.ChangeAt Go.RowKit

set_option maxRecDepth 100000 in
set_option maxHeartbeats 3200000 in
theorem walk (A : Option Addr) (n c : Nat) (l : List Int) (w : World) (hy : RY w A n c l) (fT : Tab w) (fP : PN w) (fM : Max w) :
    Calls Tryz.prog 3 #[.slice A n c] w fun e w' => e = .returned (.bool true) ∧ Below w.heap.size w w' := by
  have b1 := hy.cap; have b2 := hy.top
  by_cases hb : 4096 < n
  · have E := Lib.hid (show decide (4096 < n) = true from decide_eq_true hb)
    go_enter Tryz.func3, Tryz.ntmps3
    go_wp2_with fail
    refine (big _ _ _ _ _ hy).mono ?_; rintro e w1 ⟨rfl, q1⟩
    rw [E.out]
    go_wp2
    go_ret
    exact ⟨rfl, below_qt q1 (Below.refl _ _)⟩
  have E := Lib.hid (show decide (4096 < n) = false from decide_eq_false hb)
  have hn : n ≤ 4096 := by omega
  clear hb
  go_enter Tryz.func3, Tryz.ntmps3
  go_wp2_with fail
  refine (big _ _ _ _ _ hy).mono ?_; rintro e w1 ⟨rfl, q1⟩
  rw [E.out]
  have hw1 := below_qt q1 (Below.refl w.heap.size w)
  have sz1 := hw1.size
  go_wp2_with fail
  refine (roll A n c l _ _ (hy.keep (keeps_below hw1)) hn).mono ?_; rintro e w2 ⟨b, rfl, hd2⟩
  have hw2 := below_then hd2.bel sz1 hw1
  have lo2 := hd2.lo
  have up2 := hd2.lt
  have hwb : w.heap.size ≤ b := by omega
  clear hw1 q1 hy E b1 b2
  go_wp2_with fail
  refine (w9Game _ _ b 8 hd2 (by omega) (by omega)).mono ?_; rintro e w3 ⟨s0, s1, s2, g, rfl, HG, og, hd3, hc3⟩
  obtain ⟨A0, c0, A1, c1, A2, c2, rfl, rfl, rfl⟩ := og.form
  have hw3 : Below w.heap.size w w3 := hw2.trans (hc3.below hw2.size (fun y hy => by have h3 : y = b := hy; omega))
  have sz3 := hc3.size
  have hfg := finePar_of HG.out.1
  obtain ⟨m, hm_⟩ : ∃ m, g.1.length = m := ⟨_, rfl⟩
  have hnp : g.2.2.length = m := by rw [hfg.2.1]; exact hm_
  have hnx : g.2.1.length = m := by have h1 := hfg.1.2.2.1; rw [h1]; exact hm_
  have hm8 : m ≤ 8 := by have h1 := HG.out.2.1; omega
  have hm1 : 1 ≤ m := by have h1 := hfg.1.1; omega
  have hm9 : g.1.length ≤ 8 := by omega
  have HN := Lib.hid hm_; have HNP := Lib.hid hnp; have HNX := Lib.hid hnx
  have HP : Hid (parB g = true) := Lib.hid HG.out.1
  have EG := Lib.hid (game_back HG.out.1 hm9)
  have ES : Hid ((gmT g).length ≤ 4000000) := Lib.hid (by rw [gmT_yes HG.out.1]; have := gmUp_len hfg g.1.length (Nat.le_refl _); omega)
  have EL := Lib.hid (lines_back HG.out.1)
  have ED := Lib.hid (fun k (hk : k < g.1.length + 1) => game_dmg HG.out.1 hm9 hk)
  have EP := Lib.hid (fun plan hp => sol_shape (g := g) (plan := plan) hm9 hp)
  have EH : Hid (∀ j, (gx (gLs g m) j).length ≤ 4000) := Lib.hid (fun j => by
    by_cases hj : j < (gLs g m).length
    · have h0 := gLs_short hfg (gx (gLs g m) j) (by rw [hm_]; exact gx_mem hj)
      omega
    · unfold gx
      rw [List.getD_eq_getElem?_getD, List.getElem?_eq_none (by omega)]
      simp)
  have EU : Hid (∀ k j, j ≤ m + 1 → (unl (dmg (gLs g m) k j)).length ≤ 4000) := Lib.hid (fun k j hj => by
    have hs0 := gLs_short hfg
    rw [hm_] at hs0
    have h0 := unl_len _ _ (dmg_short hs0 k (show j ≤ (gLs g m).length by rw [gLs_len]; exact hj))
    rw [dmg_len] at h0
    have : (200 + 2 + 1) * j ≤ 203 * 9 := Nat.mul_le_mul_left _ (by omega)
    omega)
  rw [hnp, hnx, hm_] at og ⊢
  have hba3 : Below w3.heap.size w3 (w3.alloc (.cells #[.slice A0 m c0, .slice A1 m c1, .slice A2 m c2] 32)) := below_alloc (Nat.le_refl _) (Below.refl _ _)
  have bG : Box (w3.alloc (.cells #[.slice A0 m c0, .slice A1 m c1, .slice A2 m c2] 32)) w3.heap.size 32 #[.slice A0 m c0, .slice A1 m c1, .slice A2 m c2] := Box.new _ _ _
  have hd4 := hd3.on hba3; replace og := og.below hba3
  have hw4 := below_then hba3 hw3.size hw3
  have hR := og.reads
  have p0 := bG.c0; have p1 := bG.c1; have p2 := bG.c2
  have Ew : (w3.alloc (.cells #[.slice A0 m c0, .slice A1 m c1, .slice A2 m c2] 32)).heap.size = w3.heap.size + 1 := by simp
  have HE := Lib.hid Ew
  clear hc3 hba3 hw3 hd2 hw2 hm_ hfg hnp hnx hd3 Ew og hm9
  go_wp2_with fail
  generalize w3.alloc (.cells #[.slice A0 m c0, .slice A1 m c1, .slice A2 m c2] 32) = w4 at *
  refine (implGameText _ _ _ g _ _ (Nat.le_refl _) (fT.below hw4) (fP.keep (keeps_below hw4)) hR).mono ?_; rintro e w5 ⟨rfl, hb5⟩
  have hw5 := below_then hb5 hw4.size hw4
  replace bG := bG.on hb5
  replace hR := hR.keep (keeps_below hb5)
  replace hd4 := hd4.on hb5
  clear p0 p1 p2 hw4 hb5
  go_wp2_with fail
  refine (implTextGame _ _ _ (Nat.le_refl _) (fP.keep (keeps_below hw5)) (fM.keep (keeps_below hw5))).mono ?_; rintro e w6 ⟨t0, t1, t2, rfl, ho6, hb6⟩
  rw [tx_data] at ho6 ⊢
  rw [EG.out.2] at ho6
  rw [EG.out.1]
  obtain ⟨T0, d0, T1, d1, T2, d2, rfl, rfl, rfl⟩ := ho6.form
  rw [HN.out, HNP.out, HNX.out] at ho6 ⊢
  have hb6a : Below w6.heap.size w6 (w6.alloc (.cells #[.slice T0 m d0, .slice T1 m d1, .slice T2 m d2] 32)) := below_alloc (Nat.le_refl _) (Below.refl _ _)
  have hw6 := below_then hb6 hw5.size hw5
  replace hw6 := below_then hb6a hw6.size hw6
  replace bG := (bG.on hb6).on hb6a
  replace hR := (hR.keep (keeps_below hb6)).keep (keeps_below hb6a)
  replace hd4 := (hd4.on hb6).on hb6a
  have bT : Box (w6.alloc (.cells #[.slice T0 m d0, .slice T1 m d1, .slice T2 m d2] 32)) w6.heap.size 32 #[.slice T0 m d0, .slice T1 m d1, .slice T2 m d2] := Box.new _ _ _
  have hRT := ho6.reads.keep (keeps_below hb6a)
  clear hb6 hb6a ho6 hw5
  go_wp2_with fail
  generalize hW6 : w6.alloc (.cells #[.slice T0 m d0, .slice T1 m d1, .slice T2 m d2] 32) = w7 at *
  clear hW6
  have hb7' : b < w7.heap.size := hd4.lt
  refine (linesL _ _ _ (Nat.le_refl _) (by rw [tx_size]; exact ES.out)).mono ?_; rintro e w8 ⟨v8, rfl, hL8, hb8⟩
  rw [EL.out, HN.out] at hL8
  have hw8 := below_then hb8 hw6.size hw6
  replace bG := bG.on hb8
  replace bT := bT.on hb8
  replace hR := hR.keep (keeps_below hb8)
  replace hRT := hRT.keep (keeps_below hb8)
  replace hd4 := hd4.on hb8
  obtain ⟨A8, c8, rfl⟩ := hL8.form
  obtain ⟨n1, hn1⟩ : ∃ n1, n1 = m + 1 := ⟨_, rfl⟩
  have hL8l : ((gLs g m).map tx).length = n1 := by rw [List.length_map, gLs_len, hn1]
  rw [hL8l] at hL8 ⊢
  have HN1 := Lib.hid hn1
  have hn19 : n1 ≤ 9 := by omega
  have e1 : IntKind.i64.wrap ((m : Int) + 1) = (n1 : Int) := by rw [show (m : Int) + 1 = (n1 : Int) by omega]; exact IntWalk.i64_in _ (by omega)
  have p0 := bG.c0; have p1 := bG.c1; have p2 := bG.c2
  have r0 := bT.c0; have r1 := bT.c1; have r2 := bT.c2
  clear hL8l hb8 hw6 hn1
  go_wp2_with fail
  refine (sameParity _ _ _ _ _ _ g _ _ (Nat.le_refl _) hRT hR HP.out).mono ?_; rintro e w9 ⟨rfl, hb9⟩
  have hw9 := below_then hb9 hw8.size hw8
  replace bG := bG.on hb9
  replace hR := hR.keep (keeps_below hb9)
  replace hd4 := hd4.on hb9
  replace hL8 := hL8.below hb9
  clear p0 p1 p2 r0 r1 r2 hb9 hw8 hRT bT
  have p0 := bG.c0; have p1 := bG.c1; have p2 := bG.c2
  go_wp2_with fail
  refine (solved _ _ _ g _ _ (Nat.le_refl _) hR HP.out).mono ?_; rintro e w10 ⟨v0, v1, plan, rfl, ow, op, hpl, hb10⟩
  have hsh := EP.out plan hpl
  have EA := Lib.hid (answer_back (z := (wonL g, plan)) hsh.1 (by show (wonL g).length ≤ 8; rw [wonL_len, HN.out]; exact hm8))
  have hplm : plan.length = m := by rw [hpl.1, HN.out]
  have EPl := Lib.hid (plan_back hsh.2 (fun e => by rw [e] at hplm; simp at hplm; omega) (by omega))
  have hwl : (wonL g).length = m := by rw [wonL_len, HN.out]
  obtain ⟨W0, x0, rfl⟩ := ow.form
  obtain ⟨W1, x1, rfl⟩ := op.form
  rw [hplm] at op ⊢
  rw [hwl] at ow ⊢
  have HWL := Lib.hid hwl
  have HPL := Lib.hid hplm
  have hw10 := below_then hb10 hw9.size hw9
  have hb10a : Below w10.heap.size w10 (w10.alloc (.cells #[.slice W0 m x0, .slice W1 m x1] 41)) := below_alloc (Nat.le_refl _) (Below.refl _ _)
  have bA : Box (w10.alloc (.cells #[.slice W0 m x0, .slice W1 m x1] 41)) w10.heap.size 41 #[.slice W0 m x0, .slice W1 m x1] := Box.new _ _ _
  replace hw10 := below_then hb10a hw10.size hw10
  replace hd4 := (hd4.on hb10).on hb10a
  replace hL8 := (hL8.below hb10).below hb10a
  have hW := ow.rv.keep (keeps_below hb10a)
  have hPl := op.rv.keep (keeps_below hb10a)
  have hW' := ow.reads.keep (keeps_below hb10a)
  have hPl' := op.reads.keep (keeps_below hb10a)
  have a0 := bA.cell 0; have a1 := bA.cell 1
  simp only [List.getElem?_toArray, List.getElem?_cons_zero, List.getElem?_cons_succ] at a0 a1
  clear p0 p1 p2 bG hR hb10 hb10a ow op hw9 hpl hsh hwl hplm
  go_wp2_with fail
  generalize hW10 : w10.alloc (.cells #[.slice W0 m x0, .slice W1 m x1] 41) = w11 at *
  clear hW10
  refine (implAnswerText _ _ (wonL g, plan) _ _ (Nat.le_refl _) (fT.below hw10) (fP.keep (keeps_below hw10)) ⟨hW, hPl⟩).mono ?_; rintro e w12 ⟨rfl, hb12⟩
  have hw12 := below_then hb12 hw10.size hw10
  replace bA := bA.on hb12
  replace hd4 := hd4.on hb12
  replace hL8 := hL8.below hb12
  replace hW' := hW'.keep (keeps_below hb12)
  replace hPl' := hPl'.keep (keeps_below hb12)
  clear a0 a1 hb12 hw10 hW hPl
  go_wp2_with fail
  refine (implTextAnswer _ _ _ (Nat.le_refl _) (fP.keep (keeps_below hw12)) (fM.keep (keeps_below hw12))).mono ?_; rintro e w13 ⟨t0, t1, rfl, ho13, hb13⟩
  rw [tx_data] at ho13 ⊢
  rw [EA.out.2] at ho13
  rw [EA.out.1]
  obtain ⟨Y0, y0, Y1, y1, rfl, rfl⟩ := ho13.form
  simp only [HWL.out, HPL.out] at ho13 ⊢
  have hw13 := below_then hb13 hw12.size hw12
  have hb13a : Below w13.heap.size w13 (w13.alloc (.cells #[.slice Y0 m y0, .slice Y1 m y1] 41)) := below_alloc (Nat.le_refl _) (Below.refl _ _)
  have bY : Box (w13.alloc (.cells #[.slice Y0 m y0, .slice Y1 m y1] 41)) w13.heap.size 41 #[.slice Y0 m y0, .slice Y1 m y1] := Box.new _ _ _
  replace hw13 := below_then hb13a hw13.size hw13
  replace bA := (bA.on hb13).on hb13a
  replace hd4 := (hd4.on hb13).on hb13a
  replace hL8 := (hL8.below hb13).below hb13a
  replace hW' := (hW'.keep (keeps_below hb13)).keep (keeps_below hb13a)
  replace hPl' := (hPl'.keep (keeps_below hb13)).keep (keeps_below hb13a)
  have hY0 := (OI.reads ho13.1).keep (keeps_below hb13a)
  have hY1 := (OI.reads ho13.2.1).keep (keeps_below hb13a)
  have a0 := bA.cell 0; have a1 := bA.cell 1
  simp only [List.getElem?_toArray, List.getElem?_cons_zero, List.getElem?_cons_succ] at a0 a1
  clear hb13 hb13a ho13 hw12
  go_wp2_with fail
  generalize hW13 : w13.alloc (.cells #[.slice Y0 m y0, .slice Y1 m y1] 41) = w14 at *
  clear hW13
  refine (implPlanText _ _ _ plan _ _ (Nat.le_refl _) (fT.below hw13) hPl').mono ?_; rintro e w15 ⟨rfl, hb15⟩
  have hw15 := below_then hb15 hw13.size hw13
  replace bA := bA.on hb15
  replace bY := bY.on hb15
  replace hd4 := hd4.on hb15
  replace hL8 := hL8.below hb15
  replace hW' := hW'.keep (keeps_below hb15)
  replace hPl' := hPl'.keep (keeps_below hb15)
  replace hY0 := hY0.keep (keeps_below hb15)
  replace hY1 := hY1.keep (keeps_below hb15)
  clear a0 a1 hb15 hw13
  go_wp2_with fail
  refine (implTextPlan _ _ _ (Nat.le_refl _) (fM.keep (keeps_below hw15))).mono ?_; rintro e w16 ⟨v16, rfl, ho16, hb16⟩
  rw [tx_data] at ho16 ⊢
  rw [EPl.out.2] at ho16
  rw [EPl.out.1]
  obtain ⟨Z0, z0, rfl⟩ := ho16.form
  rw [HPL.out] at ho16 ⊢
  have hw16 := below_then hb16 hw15.size hw15
  replace bA := bA.on hb16
  replace bY := bY.on hb16
  replace hd4 := hd4.on hb16
  replace hL8 := hL8.below hb16
  replace hW' := hW'.keep (keeps_below hb16)
  replace hPl' := hPl'.keep (keeps_below hb16)
  replace hY0 := hY0.keep (keeps_below hb16)
  replace hY1 := hY1.keep (keeps_below hb16)
  have hZ := ho16.reads
  have a0 := bA.cell 0; have a1 := bA.cell 1
  have f0 := bY.cell 0; have f1 := bY.cell 1
  simp only [List.getElem?_toArray, List.getElem?_cons_zero, List.getElem?_cons_succ] at a0 a1 f0 f1
  clear hb16 ho16 hw15
  have HS : ∀ wx, Below w16.heap.size w16 wx → (wx.cell? ⟨w10.heap.size, 0, none⟩ = some (.slice W0 m x0) ∧ wx.cell? ⟨w10.heap.size, 1, none⟩ = some (.slice W1 m x1) ∧ wx.cell? ⟨w13.heap.size, 0, none⟩ = some (.slice Y0 m y0) ∧ wx.cell? ⟨w13.heap.size, 1, none⟩ = some (.slice Y1 m y1)) := fun wx h => ⟨keeps_below h _ _ a0, keeps_below h _ _ a1, keeps_below h _ _ f0, keeps_below h _ _ f1⟩
  have H3 := Lib.hid HS
  clear HS bA bY
  have hx : Below w16.heap.size w16 w16 := Below.refl _ _
  go_wp2_with (go_at_call 16; refine (likeInts _ _ _ _ _ _ _ _ _ (by first | with_reducible exact hY0.keep (keeps_below hx) | with_reducible exact hY1.keep (keeps_below hx) | with_reducible exact hZ.keep (keeps_below hx)) (by first | with_reducible exact hW'.keep (keeps_below hx) | with_reducible exact hPl'.keep (keeps_below hx))).mono ?_; rintro e wq ⟨rfl, qq⟩; rw [eqL_self]; replace hx : Below w16.heap.size w16 wq := below_then (below_qt qq (Below.refl _ _)) hx.size hx; obtain ⟨i0, i1, i2, i3⟩ := H3.out wq hx)
  have hw19 := below_then hx hw16.size hw16
  replace hd4 := hd4.on hx
  replace hL8 := hL8.below hx
  clear a0 a1 f0 f1 i0 i1 i2 i3 hPl' hZ hY0 hY1 hW'
  have hn11 : (1 : Int) ≤ (n1 : Int) := by have h9 := HN1.out; omega
  go_wp2_with fail
  refine (below w1 _ b (n1 : Int) hd4 hn11).mono ?_; rintro e w20 ⟨x, rfl, hx, hd20, hc20⟩
  obtain ⟨k, rfl⟩ := Int.eq_ofNat_of_zero_le hx.1
  have hkn : k < n1 := by omega
  have hw20 : Below w.heap.size w w20 := hw19.trans (hc20.below hw19.size (fun y hy => by have h3 : y = b := hy; omega))
  have hlt8 : ∀ z, (Value.slice A8 n1 c8).ownBlock = some z → w7.heap.size ≤ z := fun z hz => (hL8.lt z hz).1
  have hL20 := row_chg hL8 hc20 (fun z hz e => by have h3 : z = b := e; have h4 := hlt8 z hz; omega)
  have hLr := OS.reads hL20
  have hP20 := fP.keep (keeps_below hw20)
  have hM20 := fM.keep (keeps_below hw20)
  have HK := Lib.hid hkn
  clear hc20 hd20 hx hkn hL20 hL8 hw19 hd4
  go_wp2
  go_loopw [15, 16] (fun s i wr => ∃ j : Nat, j ≤ n1 ∧ i = .int .i64 (j : Int) ∧ s = .string (tx (unl (dmg (gLs g m) k j))) ∧ wr = w20) (fun _ i _ => n1 - (intOf i).toNat)
  case atStart => exact ⟨0, Nat.zero_le _, rfl, rfl, by first | trivial | rfl⟩
  case round =>
    obtain ⟨j, hj, rfl, rfl, rfl⟩ := hrel
    by_cases hlt : j < n1
    · obtain ⟨bl, ol, hAl, hcl⟩ := hLr.at_ hlt
      subst hAl
      rw [gt_map] at hcl
      have hxl : (tx (gx (gLs g m) j)).size ≤ 4000 := by rw [tx_size]; exact EH.out j
      have hul : (tx (unl (dmg (gLs g m) k j))).size ≤ 4000 := by rw [tx_size]; exact EU.out k j (by rw [← HN1.out]; omega)
      have HU := Lib.hid (dmg_succ (gLs g m) k j)
      have z1 : (tx (unl (dmg (gLs g m) k j))).size + (tx (gx (gLs g m) j)).size ≤ 9223372036854775807 := by omega
      have z2 : (tx (unl (dmg (gLs g m) k j))).size + (tx (gx (gLs g m) j)).size + 2 ≤ 9223372036854775807 := by omega
      have z3 : (tx (unl (dmg (gLs g m) k j))).size + (tx (gx (gLs g m) j)).size + 1 ≤ 9223372036854775807 := by omega
      have z4 : (tx (unl (dmg (gLs g m) k j))).size + (tx (gx (gLs g m) j)).size + 2 + 1 ≤ 9223372036854775807 := by omega
      have z5 : (tx (unl (dmg (gLs g m) k j))).size + (tx (gx (gLs g m) j)).size + 3 ≤ 9223372036854775807 := by omega
      by_cases hjk : j = k
      · have hjk' : ((j : Int) == (k : Int)) = true := by simp [hjk]
        have HJK := Lib.hid hjk
        clear hjk hul hxl
        go_wp2
        go_roundw
        case rel =>
          refine ⟨j + 1, by omega, by go_num, ?_, by first | trivial | rfl⟩
          show Value.string (tx (unl (dmg (gLs g m) k j)) ++ tx (gx (gLs g m) j) ++ tx [32, 120] ++ tx [10]) = _
          rw [HU.out, if_pos HJK.out, tx_app, tx_app, tx_app]
          simp only [List.append_assoc]
        case measure => simp [intOf]; omega
      · have hjk' : ((j : Int) == (k : Int)) = false := by rw [beq_eq_false_iff_ne]; omega
        have HJK := Lib.hid hjk
        clear hjk hul hxl
        go_wp2
        go_roundw
        case rel =>
          refine ⟨j + 1, by omega, by go_num, ?_, by first | trivial | rfl⟩
          show Value.string (tx (unl (dmg (gLs g m) k j)) ++ tx (gx (gLs g m) j) ++ tx [10]) = _
          rw [HU.out, if_neg HJK.out, tx_app, tx_app]
          simp only [List.append_assoc]
        case measure => simp [intOf]; omega
    · obtain rfl : j = n1 := by omega
      have ED2 := ED.out k (by rw [HN.out, ← HN1.out]; exact HK.out)
      rw [HN.out, ← HN1.out] at ED2
      have EDh := Lib.hid ED2
      clear ED2
      go_wp2_with fail
      refine (implTextGame _ _ _ (Nat.le_refl _) hP20 hM20).mono ?_; rintro e w21 ⟨t0, t1, t2, rfl, ho21, hb21⟩
      rw [tx_data] at ho21 ⊢
      rw [EDh.out.2] at ho21
      rw [EDh.out.1]
      obtain ⟨F0, f0, F1, f1, F2, f2, rfl, rfl, rfl⟩ : ∃ F0 f0 F1 f1 F2 f2, t0 = .slice F0 0 f0 ∧ t1 = .slice F1 0 f1 ∧ t2 = .slice F2 0 f2 := ho21.form
      have hw21 := below_then hb21 hw20.size hw20
      have bF := Box.new w21 32 #[.slice F0 0 f0, .slice F1 0 f1, .slice F2 0 f2]
      have g2 := bF.c2
      go_wp2
      go_ret
      exact ⟨rfl, below_alloc (Nat.le_refl _) hw21⟩
theorem own : ownKnob Tryz.prog.godebug = none := by kernel_rfl
theorem laidOut : laidOutB Tryz.prog = true := by kernel_rfl
set_option maxRecDepth 100000 in
theorem lifted (os : Os) (started : os.Started) (H : Type) (enc : TypeId × Value → H) :
    ReturnsInHanded {} Tryz.checked os 3 .any (fun w args => (Rows.fnGameWordsSpec.pre enc Tryz.prog Tryz.f3 Rows.fnGameWordsRow.domain false w args ∧ laidMetH Tryz.prog Rows.fnGameWordsRow.laid w) ∧ sizedMet enc Tryz.prog Tryz.f3 (OpenSpec.ofChange Rows.fnGameWordsSpec) false w args) (Rows.fnGameWordsSpec.post enc Tryz.prog Tryz.f3 false true false false) := by
  refine returns_laid (C := Tryz.checked) own started (by kernel_rfl) Tryz.func3
    (ChangeSpec.witness_shaped (enc := enc) (C := Tryz.checked) (os := os) (X := fun w _ => laidMetH Tryz.prog Rows.fnGameWordsRow.laid w) false (World.laidAll Tryz.prog os Rows.fnGameWordsRow.laid) #[.slice none 0 0] 8 (World.laidAll_os _ _ _)
      (World.shaped_of_ZipB (by kernel_rfl) (by kernel_rfl)) (by kernel_rfl) (by kernel_rfl) (by kernel_rfl)
      (by rw [MakeChecks.laidMetH_plain _ _ _ (by kernel_rfl)]; exact laidMet_laidAll _ (by kernel_rfl) (by kernel_rfl))) ?_
  intro W base args ds gs before hval0 hW hL hsh
  have hval : ∀ (j : Nat) t v, Tryz.f3.params[j]? = some t → args[j]? = some v → Value.okWide Tryz.prog W .any base t v := hval0
  have hW' := hW
  obtain ⟨p, q, hA0, hV, rfl, hfz, hnd⟩ := hW
  have hA : DataW.TrodAll enc Tryz.prog W 0 (fun _ => true) true Tryz.f3.params.toList args.toList ds p := hA0
  rw [Tryz.params3] at hA hval
  obtain ⟨v0, vs0, d0, ds0, p0, q0, hargs, rfl, rfl, h0, r0⟩ := trodAll_cons hA
  obtain ⟨rfl, rfl, rfl⟩ := trodAll_nil r0
  obtain rfl : args = #[v0] := by cases args; simp_all
  obtain ⟨g1, rfl⟩ := names_one hV
  have k0 := h0
  have lt0 : ∀ x ∈ p0, x.block < W.heap.size := by obtain ⟨m, hm⟩ := k0; exact DataW.trod_lt m _ _ _ hm
  obtain ⟨fuel0, hf0⟩ := h0
  obtain ⟨A0, n0, c0, rfl⟩ := okWide_slice Tryz.underlying22 (hval 0 22 v0 rfl rfl)
  obtain ⟨B0, m0, d0, ps0, e0, rr0⟩ := ry_of_trod (c := .slice A0 n0 c0) Tryz.underlying22 Tryz.underlying5 (by kernel_rfl) (by intro; rfl) hf0
  injection e0 with ea0 eb0 ec0
  subst ea0; subst eb0; subst ec0
  clear hA0 hval0
  have fT := tab_of (by kernel_rfl) hL (by kernel_rfl)
  have fP := names_of (by kernel_rfl) hL (by kernel_rfl)
  have fM := max_of hsh
  refine (walk _ _ _ _ W rr0 fT fP fM).mono fun e W' ⟨he, bel⟩ => ?_
  subst he
  exact ⟨_, rfl, _, _, _, [], _, _, hW', trodAll_mk1 (shut_bool Tryz.underlying4 _), (trodAll_cons_mk (Below.trod laidOut (by kernel_rfl) (of_decide_eq_true (by kernel_rfl)) k0 bel lt0) trodAll_mk0), names_stay hV bel, bel.frame _, fun h => by cases h⟩
theorem over : Rows.fnGameWordsRow.holds Tryz.pinned (OpenSpec.ofChange Rows.fnGameWordsSpec) :=
  OpenClaim.holds_of_wide 3 Tryz.f3 rfl rfl rfl rfl rfl rfl rfl ⟨rfl, rfl, rfl, rfl, rfl⟩ rfl rfl rfl rfl rfl (by kernel_rfl) Tryz.func3 (by kernel_rfl)
    (of_decide_eq_true (by kernel_rfl)) (by unfold Func.isWrapper; first | (rw [if_pos (by decide +kernel)]; kernel_rfl) | (rw [if_neg (by decide +kernel)]; exact ⟨rfl, rfl⟩))
    (fun os started H enc _ => lifted os started H enc)
/-- no parameter wants a stand-in; the program's own looks are off -/
theorem plain (f : FuncId) (fn : Func) (hf : Tryz.pinned.checked.prog.funcNamed "loop.example/g00869/laws.FnGameWords" = some f) (hfn : Tryz.pinned.checked.prog.funcs[f]? = some fn) :
    false = Tryz.pinned.checked.prog.looks [] ∧ ∀ (j : Nat) t, fn.params[j]? = some t → Tryz.pinned.checked.prog.wantsStandIn t = false := by
  obtain rfl : f = 3 := Option.some.inj ((show Tryz.prog.funcNamed "loop.example/g00869/laws.FnGameWords" = some 3 by kernel_rfl).symm.trans hf) |>.symm
  obtain rfl : fn = Tryz.f3 := (Option.some.inj (Tryz.func3.symm.trans hfn)).symm
  refine ⟨by kernel_rfl, fun j t ht => ?_⟩
  rw [Tryz.params3] at ht
  have hm := Array.mem_of_getElem? ht
  simp only [Array.mem_def, List.mem_cons, List.mem_nil_iff, or_false] at hm
  subst hm
  exact (show Tryz.prog.wantsStandIn 22 = false by kernel_rfl)
/-- the statement -/
theorem proved : Rows.FnGameWordsCardSaid :=
  Claim7.holds_tied_plain_at .later [] _ _ _ _ over (fun _ h => by cases h) (by kernel_rfl) (fun _ h => by cases h) fnGameWords_row_tie rfl ⟨rfl, rfl⟩ (by kernel_rfl) rfl plain (by kernel_rfl)
end Go.Proofs.YtkhkdnmpbfmmeaaGreatDoor.fnGameWords

