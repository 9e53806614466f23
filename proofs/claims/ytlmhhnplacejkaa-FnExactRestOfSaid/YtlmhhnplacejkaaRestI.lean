/- RestOf, both. -/
import Derived.Test.YtlmhhnplacejkaaSub
import Derived.Test.YtlmhhnplacejkaaOft
import Derived.Test.YtlmhhnplacejkaaCut
import Derived.Deep.DeepCutAuto
namespace Go.Proofs.Ytlmhhnplacejkaa
open Go.RowKit

/-- the result: the rest in a lower range of blocks than the game -/
def RestsTo (w : World) (B : Nat) (g : ParD) (who : Int) (e : Ending) (w' : World) : Prop :=
  ∃ (wm : World) (lo : Nat) (v t0 t1 t2 : Value), e = .returned (.tuple #[.agg #[t0, t1, t2], v, .bool (okRest g who)]) ∧ OPar w' wm.heap.size t0 t1 t2 (restG g who) ∧ OI 2 wm lo v (restL g who) ∧ Far lo wm w' ∧ (B ≤ lo ∧ lo ≤ wm.heap.size) ∧ Below B w w'
theorem restS_len {g : ParD} (hf : finePar g) (who : Int) : (restS g who).length ≤ 256 := by
  have h1 := set_len (restS_set g who) (by omega)
  have := hf.1.2.1
  omega


set_option maxRecDepth 100000 in
set_option maxHeartbeats 3200000 in
theorem implRestOf (s0 s1 s2 : Value) (g : ParD) (who : Int) (w : World) (B : Nat) (hB : B ≤ w.heap.size) (hag : RPv w s0 s1 s2 g) :
    Calls Try.prog 26 #[.agg #[s0, s1, s2], .int .i64 who] w (RestsTo w B g who) := by
  obtain ⟨A0, n0, c0, A1, n1, c1, A2, n2, c2, rfl, rfl, rfl⟩ := hag.form
  have b1 := hag.ri.cap; have b2 := hag.ri.top; have b3 := hag.rii.cap; have b4 := hag.rii.top; have b7 := hag.rp.cap; have b8 := hag.rp.top
  have HL := Lib.hid hag.ri.len; have HP := Lib.hid hag.rp.len
  have hba : Below w.heap.size w ((w.alloc (.cells #[.slice A0 n0 c0, .slice A1 n1 c1, .slice A2 n2 c2] 33)).alloc (.cells #[.slice none 0 0, .slice none 0 0, .slice none 0 0] 33)) := below_alloc (Nat.le_refl _) (below_alloc (Nat.le_refl _) (Below.refl _ _))
  have bxL := (Box.new w 33 #[.slice A0 n0 c0, .slice A1 n1 c1, .slice A2 n2 c2]).alloc (.cells #[.slice none 0 0, .slice none 0 0, .slice none 0 0] 33)
  have brL : Box ((w.alloc (.cells #[.slice A0 n0 c0, .slice A1 n1 c1, .slice A2 n2 c2] 33)).alloc (.cells #[.slice none 0 0, .slice none 0 0, .slice none 0 0] 33)) (w.heap.size + 1) 33 #[.slice none 0 0, .slice none 0 0, .slice none 0 0] := Box.new' (by simp)
  have q0 := bxL.c0; have q1 := bxL.c1; have q2 := bxL.c2
  cases hp : parB g with
  | false =>
    have E := Lib.hid (okRest_no1 (who := who) (show (parB g && inR who 0 1) = false by rw [hp]; rfl))
    have HPB := Lib.hid hp
    clear hp
    go_enter Try.func26, Try.ntmps26
    go_wp2_with fail
    refine (implParityOk _ _ _ g _ _ (Nat.le_refl _) (hag.keep (keeps_below hba))).mono ?_; rintro e w1 ⟨rfl, hb1⟩
    rw [HPB.out]
    have hw1 := below_then hb1 hba.size hba
    have br1 := brL.on hb1
    clear q0 q1 q2 bxL brL
    have z0 := br1.c0; have z1 := br1.c1; have z2 := br1.c2; have y0 := br1.hot 0; have y1 := br1.hot 1; have y2 := br1.hot 2
    go_wp2
    obtain ⟨hwZ, bxZ⟩ := zero3 hw1 (by omega) br1 (.slice none 0 0) (.slice none 0 0) (.slice none 0 0)
    have R0 := bxZ.c0; have R1 := bxZ.c1; have R2 := bxZ.c2
    exact bodyPost_ret (v := .tuple #[.agg #[.slice none 0 0, .slice none 0 0, .slice none 0 0], .slice none 0 0, .bool false]) (by simp [results, Try.results26, go_sem, R0, R1, R2]) rfl ⟨_, _, _, _, _, _, by rw [E.out], by rw [restG_no E.out]; exact OPar.nil _ _, by rw [restL_no E.out]; exact OI.nil _ _ _, Far.refl _ _, ⟨hB, hwZ.size⟩, hwZ.mono hB⟩
  | true =>
    have HPB := Lib.hid hp
    cases hin : inR who 0 1 with
    | false =>
      have E := Lib.hid (okRest_no1 (who := who) (show (parB g && inR who 0 1) = false by rw [hin, Bool.and_false]))
      have HIN := Lib.hid hin
      clear hp hin
      go_enter Try.func26, Try.ntmps26
      go_wp2_with fail
      refine (implParityOk _ _ _ g _ _ (Nat.le_refl _) (hag.keep (keeps_below hba))).mono ?_; rintro e w1 ⟨rfl, hb1⟩
      rw [HPB.out]
      have hw1 := below_then hb1 hba.size hba
      have br1 := brL.on hb1
      clear q0 q1 q2 bxL brL
      go_wp2_with fail
      refine (isPlayerQ _ _).mono ?_; rintro e w2 ⟨rfl, hq2⟩
      rw [HIN.out]
      have hw2 := below_qt hq2 hw1
      have br2 := br1.on (below_qt hq2 (Below.refl _ _))
      clear br1
      have z0 := br2.c0; have z1 := br2.c1; have z2 := br2.c2; have y0 := br2.hot 0; have y1 := br2.hot 1; have y2 := br2.hot 2
      go_wp2
      obtain ⟨hwZ, bxZ⟩ := zero3 hw2 (by omega) br2 (.slice none 0 0) (.slice none 0 0) (.slice none 0 0)
      have R0 := bxZ.c0; have R1 := bxZ.c1; have R2 := bxZ.c2
      exact bodyPost_ret (v := .tuple #[.agg #[.slice none 0 0, .slice none 0 0, .slice none 0 0], .slice none 0 0, .bool false]) (by simp [results, Try.results26, go_sem, R0, R1, R2]) rfl ⟨_, _, _, _, _, _, by rw [E.out], by rw [restG_no E.out]; exact OPar.nil _ _, by rw [restL_no E.out]; exact OI.nil _ _ _, Far.refl _ _, ⟨hB, hwZ.size⟩, hwZ.mono hB⟩
    | true =>
      have HIN := Lib.hid hin
      have hf := finePar_of hp
      have HOK := Lib.hid (show (parB g && inR who 0 1) = true by rw [hp, hin]; rfl)
      have hn0 := hf.1.2.1; have hn1 := hf.1.1; have hn2 := hf.2.1
      rw [HL.out] at hn0 hn1 hn2
      rw [HP.out] at hn2
      have HF := Lib.hid hf
      have H20 := Lib.hid hn2
      have HLL := Lib.hid (show (loopL g).length = n0 by rw [loopL_len, HP.out]; exact hn2)
      have hn2a : 1 ≤ n2 := by omega
      have hn2b : n2 ≤ 256 := by omega
      clear hp hin hf hn2
      go_enter Try.func26, Try.ntmps26
      go_wp2_with fail
      refine (implParityOk _ _ _ g _ _ (Nat.le_refl _) (hag.keep (keeps_below hba))).mono ?_; rintro e w1 ⟨rfl, hb1⟩
      rw [HPB.out]
      have hw1 := below_then hb1 hba.size hba
      have bx1 := bxL.on hb1; have br1 := brL.on hb1
      clear q0 q1 q2 bxL brL hba hb1
      go_wp2_with fail
      refine (isPlayerQ _ _).mono ?_; rintro e w2 ⟨rfl, hq2⟩
      rw [HIN.out]
      have hw2 := below_qt hq2 hw1
      have hb2 := below_qt hq2 (Below.refl w1.heap.size w1)
      have bx2 := bx1.on hb2; have br2 := br1.on hb2
      have hl2 : w.heap.size + 2 ≤ w2.heap.size := br2.lt
      clear bx1 br1 hw1 hq2 hb2
      have q0 := bx2.c0; have q1 := bx2.c1; have q2 := bx2.c2
      go_wp2_with fail
      refine (allOf _ _ _ _ _ _ _ _ (Nat.le_refl _) hn0).mono ?_; rintro e w3 ⟨vA, rfl, hoA, hb3⟩
      have hw3 := below_then hb3 hw2.size hw2
      have bx3 := bx2.on hb3; have br3 := br2.on hb3
      obtain ⟨AA, cA, rfl⟩ := hoA.form
      clear q0 q1 q2 bx2 br2
      have q0 := bx3.c0; have q1 := bx3.c1; have q2 := bx3.c2
      go_wp2_with fail
      refine (implLoopWon _ _ _ g _ _ (Nat.le_refl _) (hag.keep (keeps_below hw3)) HF.out).mono ?_; rintro e w4 ⟨vL, rfl, hoL, hb4⟩
      have hw4 := below_then hb4 hw3.size hw3
      have bx4 := bx3.on hb4; have br4 := br3.on hb4
      replace hoA := hoA.below hb4
      obtain ⟨AL, cL, rfl⟩ := hoL.form
      rw [HLL.out] at hoL ⊢
      clear q0 q1 q2 bx3 br3
      go_wp2_with fail
      refine (regionOf _ _ _ _ _ _ (loopL g) who _ _ (Nat.le_refl _) hoL.reads hn0).mono ?_; rintro e w5 ⟨vG, rfl, hoG, hb5⟩
      have hw5 := below_then hb5 hw4.size hw4
      have bx5 := bx4.on hb5; have br5 := br4.on hb5
      replace hoA := hoA.below hb5
      obtain ⟨AG, cG, rfl⟩ := hoG.form
      have HSG := Lib.hid (show setB (setW (loopL g) who) (g.1.length : Int) = true by have h3 := setW_set (loopL g) who; rw [HLL.out] at h3; rw [HL.out]; exact h3)
      clear hoL bx4 br4
      have q0 := bx5.c0; have q1 := bx5.c1; have q2 := bx5.c2
      have hall := allL_len n0
      have hAl : (allL n0).length ≤ 1048576 := by omega
      clear hall
      go_wp2_with fail
      refine (attract _ _ _ _ _ _ _ _ _ _ _ _ g.1 g.2.1 who (allL n0) (setW (loopL g) who) _ _ (Nat.le_refl _) (hag.keep (keeps_below hw5)).1.ri (hag.keep (keeps_below hw5)).1.rii hoA.reads hoG.reads HF.out.1 (by rw [HL.out]; exact allL_set n0) HSG.out).mono ?_; rintro e w6 ⟨vT, rfl, hoT, hb6⟩
      have hw6 := below_then hb6 hw5.size hw5
      have bx6 := bx5.on hb6; have br6 := br5.on hb6
      replace hoA := hoA.below hb6
      have hTl : (attrL g.1 g.2.1 who (allL n0) (setW (loopL g) who)).length ≤ 1048576 := by have h3 := set_len (attrL_set g.1 g.2.1 who (allL n0) (setW (loopL g) who)) (by omega); have := HF.out.1.2.1; omega
      obtain ⟨AT, cT, rfl⟩ := hoT.form
      have hl6 : w.heap.size + 2 ≤ w6.heap.size := br6.lt
      clear hoG bx5 br5 q0 q1 q2
      go_wp2_with fail
      refine (lessOf _ _ _ _ _ _ (allL n0) _ _ _ (Nat.le_refl _) hoA.reads hoT.reads (rises_set (attrL_set _ _ _ _ _)) hAl hTl).mono ?_; rintro e w7 ⟨vR, rfl, ho, hb7⟩
      have hw7 := below_then hb7 hw6.size hw6
      have bx7 := bx6.on hb7; have br7 := br6.on hb7
      have HRS := Lib.hid (show lessL (allL n0) (attrL g.1 g.2.1 who (allL n0) (setW (loopL g) who)) = restS g who by unfold restS; rw [HL.out])
      rw [HRS.out] at ho
      have hsz7 := hb7.size
      clear hoA hoT bx6 br6 hTl
      have q0 := bx7.c0; have q1 := bx7.c1; have q2 := bx7.c2
      have hlr := restS_len HF.out who
      obtain ⟨Ar, cr, rfl⟩ := ho.form
      go_wp2_with fail
      refine (implSubgameOf _ _ _ g _ _ _ (restS g who) _ _ (Nat.le_refl _) (hag.keep (keeps_below hw7)) ho.reads).mono ?_; rintro e w8 ⟨t0, t1, t2, rfl, ho8, hb8⟩
      have hw8 := below_then hb8 hw7.size hw7
      have br8 := br7.on hb8
      obtain ⟨T0, e0, T1, e1, T2, e2, rfl, rfl, rfl⟩ := ho8.form
      clear q0 q1 q2
      have hbA : Below w8.heap.size w8 (w8.alloc (.cells #[.slice T0 (subG g (restS g who)).1.length e0, .slice T1 (subG g (restS g who)).2.1.length e1, .slice T2 (subG g (restS g who)).2.2.length e2] 33)) := below_alloc (Nat.le_refl _) (Below.refl _ _)
      have bA := Box.new w8 33 #[.slice T0 (subG g (restS g who)).1.length e0, .slice T1 (subG g (restS g who)).2.1.length e1, .slice T2 (subG g (restS g who)).2.2.length e2]
      have hwA := below_then hbA hw8.size hw8
      have brA := br8.on hbA
      cases hok : okSub g (restS g who) with
      | false =>
        have E := Lib.hid (okRest_no2 hok)
        clear hok
        have z0 := brA.c0; have z1 := brA.c1; have z2 := brA.c2; have y0 := brA.hot 0; have y1 := brA.hot 1; have y2 := brA.hot 2
        go_wp2
        obtain ⟨hwZ, bxZ⟩ := zero3 hwA (by omega) brA (.slice none 0 0) (.slice none 0 0) (.slice none 0 0)
        have R0 := bxZ.c0; have R1 := bxZ.c1; have R2 := bxZ.c2
        exact bodyPost_ret (v := .tuple #[.agg #[.slice none 0 0, .slice none 0 0, .slice none 0 0], .slice none 0 0, .bool false]) (by simp [results, Try.results26, go_sem, R0, R1, R2]) rfl ⟨_, _, _, _, _, _, by rw [E.out], by rw [restG_no E.out]; exact OPar.nil _ _, by rw [restL_no E.out]; exact OI.nil _ _ _, Far.refl _ _, ⟨hB, hwZ.size⟩, hwZ.mono hB⟩
      | true =>
        have E := Lib.hid (okRest_yes HOK.out hok)
        have HG := Lib.hid (restG_yes E.out); have HR := Lib.hid (restL_yes E.out)
        clear hok
        have hoA := ho8.below hbA
        have a0 := bA.c0; have a1 := bA.c1; have a2 := bA.c2
        have z0 := brA.c0; have z1 := brA.c1; have z2 := brA.c2; have y0 := brA.hot 0; have y1 := brA.hot 1; have y2 := brA.hot 2
        have hzl := br7.lt
        have hsz8 := hb8.size
        generalize subG g (restS g who) = sg at *
        generalize restS g who = rs at *
        obtain ⟨hF2, hF3⟩ := zero3 hwA (Nat.le_succ _) brA (.slice T0 sg.1.length e0) (.slice T1 sg.2.1.length e1) (.slice T2 sg.2.2.length e2)
        have R0 := hF3.c0; have R1 := hF3.c1; have R2 := hF3.c2
        have chF := Chg.set3 (w8.alloc (.cells #[.slice T0 sg.1.length e0, .slice T1 sg.2.1.length e1, .slice T2 sg.2.2.length e2] 33)) (w.heap.size + 1) (.slice T0 sg.1.length e0) (.slice T1 sg.2.1.length e1) (.slice T2 sg.2.2.length e2)
        have hoF := hoA.chg chF (fun y hy => by have h3 : y = w.heap.size + 1 := hy; omega)
        have hfr : Far w6.heap.size w7 _ := (((Far.refl w6.heap.size w7).step hb8).step hbA).of_chg chF (fun y hy => .inl (by have h3 : y = w.heap.size + 1 := hy; omega))
        go_wp2
        exact bodyPost_ret (v := .tuple #[.agg #[.slice T0 sg.1.length e0, .slice T1 sg.2.1.length e1, .slice T2 sg.2.2.length e2], .slice Ar rs.length cr, .bool true]) (by simp [results, Try.results26, go_sem, R0, R1, R2]) rfl ⟨w7, w6.heap.size, _, _, _, _, by rw [E.out], by rw [HG.out]; exact hoF, by rw [HR.out]; exact ho, hfr, ⟨by omega, by omega⟩, hF2.mono hB⟩


set_option maxRecDepth 100000 in
set_option maxHeartbeats 3200000 in
theorem specRestOf (s0 s1 s2 : Value) (g : ParD) (who : Int) (w : World) (B : Nat) (hB : B ≤ w.heap.size) (hag : RPv w s0 s1 s2 g) :
    Calls Try.prog 24 #[.agg #[s0, s1, s2], .int .i64 who] w (RestsTo w B g who) := by
  obtain ⟨A0, n0, c0, A1, n1, c1, A2, n2, c2, rfl, rfl, rfl⟩ := hag.form
  have b1 := hag.ri.cap; have b2 := hag.ri.top; have b3 := hag.rii.cap; have b4 := hag.rii.top; have b7 := hag.rp.cap; have b8 := hag.rp.top
  have HL := Lib.hid hag.ri.len; have HP := Lib.hid hag.rp.len
  have hba : Below w.heap.size w ((w.alloc (.cells #[.slice A0 n0 c0, .slice A1 n1 c1, .slice A2 n2 c2] 33)).alloc (.cells #[.slice none 0 0, .slice none 0 0, .slice none 0 0] 33)) := below_alloc (Nat.le_refl _) (below_alloc (Nat.le_refl _) (Below.refl _ _))
  have bxL := (Box.new w 33 #[.slice A0 n0 c0, .slice A1 n1 c1, .slice A2 n2 c2]).alloc (.cells #[.slice none 0 0, .slice none 0 0, .slice none 0 0] 33)
  have brL : Box ((w.alloc (.cells #[.slice A0 n0 c0, .slice A1 n1 c1, .slice A2 n2 c2] 33)).alloc (.cells #[.slice none 0 0, .slice none 0 0, .slice none 0 0] 33)) (w.heap.size + 1) 33 #[.slice none 0 0, .slice none 0 0, .slice none 0 0] := Box.new' (by simp)
  have q0 := bxL.c0; have q1 := bxL.c1; have q2 := bxL.c2
  cases hp : parB g with
  | false =>
    have E := Lib.hid (okRest_no1 (who := who) (show (parB g && inR who 0 1) = false by rw [hp]; rfl))
    have HPB := Lib.hid hp
    clear hp
    go_enter Try.func24, Try.ntmps24
    go_wp2_with fail
    refine (specParityOk _ _ _ g _ _ (Nat.le_refl _) (hag.keep (keeps_below hba))).mono ?_; rintro e w1 ⟨rfl, hb1⟩
    rw [HPB.out]
    have hw1 := below_then hb1 hba.size hba
    have br1 := brL.on hb1
    clear q0 q1 q2 bxL brL
    have z0 := br1.c0; have z1 := br1.c1; have z2 := br1.c2; have y0 := br1.hot 0; have y1 := br1.hot 1; have y2 := br1.hot 2
    obtain ⟨hwZ, bxZ⟩ := zero3 hw1 (by omega) br1 (.slice none 0 0) (.slice none 0 0) (.slice none 0 0)
    have hsz : (((w1.setCell ⟨w.heap.size + 1, 0, none⟩ (.slice none 0 0)).setCell ⟨w.heap.size + 1, 1, none⟩ (.slice none 0 0)).setCell ⟨w.heap.size + 1, 2, none⟩ (.slice none 0 0)).heap.size = w1.heap.size := by simp
    have hem := OI.empty (E := 2) (w := (((w1.setCell ⟨w.heap.size + 1, 0, none⟩ (.slice none 0 0)).setCell ⟨w.heap.size + 1, 1, none⟩ (.slice none 0 0)).setCell ⟨w.heap.size + 1, 2, none⟩ (.slice none 0 0))) (B := B) (Nat.le_trans hB hwZ.size)
    rw [hsz] at hem
    have bE := bxZ.alloc (.cells #[] 2)
    have hwE := below_alloc (o := .cells #[] 2) (Nat.le_refl _) hwZ
    have hsE := hwE.size
    clear hsz
    have bA_ := br1.alloc (.cells #[] 2)
    have hsB := br1.lt
    have z0A := bA_.c0; have z1A := bA_.c1; have z2A := bA_.c2; have y0A := bA_.hot 0; have y1A := bA_.hot 1; have y2A := bA_.hot 2
    go_wp2
    have R0 := bE.c0; have R1 := bE.c1; have R2 := bE.c2
    exact bodyPost_ret (v := .tuple #[.agg #[.slice none 0 0, .slice none 0 0, .slice none 0 0], .slice (some ⟨w1.heap.size, 0, none⟩) 0 0, .bool false]) (by simp [results, Try.results24, go_sem, R0, R1, R2]) rfl ⟨_, _, _, _, _, _, by rw [E.out], by rw [restG_no E.out]; exact OPar.nil _ _, by rw [restL_no E.out]; exact hem, Far.refl _ _, ⟨Nat.le_refl _, Nat.le_trans hB hsE⟩, hwE.mono hB⟩
  | true =>
    have HPB := Lib.hid hp
    cases hin : inR who 0 1 with
    | false =>
      have E := Lib.hid (okRest_no1 (who := who) (show (parB g && inR who 0 1) = false by rw [hin, Bool.and_false]))
      have HIN := Lib.hid hin
      clear hp hin
      go_enter Try.func24, Try.ntmps24
      go_wp2_with fail
      refine (specParityOk _ _ _ g _ _ (Nat.le_refl _) (hag.keep (keeps_below hba))).mono ?_; rintro e w1 ⟨rfl, hb1⟩
      rw [HPB.out]
      have hw1 := below_then hb1 hba.size hba
      have br1 := brL.on hb1
      clear q0 q1 q2 bxL brL
      go_wp2_with fail
      refine (l1In _ _ _ _).mono ?_; rintro e w2 ⟨rfl, hq2⟩
      rw [HIN.out]
      have hw2 := below_qt hq2 hw1
      have br2 := br1.on (below_qt hq2 (Below.refl _ _))
      clear br1
      have z0 := br2.c0; have z1 := br2.c1; have z2 := br2.c2; have y0 := br2.hot 0; have y1 := br2.hot 1; have y2 := br2.hot 2
      obtain ⟨hwZ, bxZ⟩ := zero3 hw2 (by omega) br2 (.slice none 0 0) (.slice none 0 0) (.slice none 0 0)
      have hsz : (((w2.setCell ⟨w.heap.size + 1, 0, none⟩ (.slice none 0 0)).setCell ⟨w.heap.size + 1, 1, none⟩ (.slice none 0 0)).setCell ⟨w.heap.size + 1, 2, none⟩ (.slice none 0 0)).heap.size = w2.heap.size := by simp
      have hem := OI.empty (E := 2) (w := (((w2.setCell ⟨w.heap.size + 1, 0, none⟩ (.slice none 0 0)).setCell ⟨w.heap.size + 1, 1, none⟩ (.slice none 0 0)).setCell ⟨w.heap.size + 1, 2, none⟩ (.slice none 0 0))) (B := B) (Nat.le_trans hB hwZ.size)
      rw [hsz] at hem
      have bE := bxZ.alloc (.cells #[] 2)
      have hwE := below_alloc (o := .cells #[] 2) (Nat.le_refl _) hwZ
      have hsE := hwE.size
      clear hsz
      have bA_ := br2.alloc (.cells #[] 2)
      have hsB := br2.lt
      have z0A := bA_.c0; have z1A := bA_.c1; have z2A := bA_.c2; have y0A := bA_.hot 0; have y1A := bA_.hot 1; have y2A := bA_.hot 2
      go_wp2
      have R0 := bE.c0; have R1 := bE.c1; have R2 := bE.c2
      exact bodyPost_ret (v := .tuple #[.agg #[.slice none 0 0, .slice none 0 0, .slice none 0 0], .slice (some ⟨w2.heap.size, 0, none⟩) 0 0, .bool false]) (by simp [results, Try.results24, go_sem, R0, R1, R2]) rfl ⟨_, _, _, _, _, _, by rw [E.out], by rw [restG_no E.out]; exact OPar.nil _ _, by rw [restL_no E.out]; exact hem, Far.refl _ _, ⟨Nat.le_refl _, Nat.le_trans hB hsE⟩, hwE.mono hB⟩
    | true =>
      have HIN := Lib.hid hin
      have hf := finePar_of hp
      have HOK := Lib.hid (show (parB g && inR who 0 1) = true by rw [hp, hin]; rfl)
      have hn0 := hf.1.2.1; have hn1 := hf.1.1; have hn2 := hf.2.1
      rw [HL.out] at hn0 hn1 hn2
      rw [HP.out] at hn2
      have HF := Lib.hid hf
      have H20 := Lib.hid hn2
      have HLL := Lib.hid (show (loopL g).length = n0 by rw [loopL_len, HP.out]; exact hn2)
      have hn2a : 1 ≤ n2 := by omega
      have hn2b : n2 ≤ 256 := by omega
      clear hp hin hf hn2
      go_enter Try.func24, Try.ntmps24
      go_wp2_with fail
      refine (specParityOk _ _ _ g _ _ (Nat.le_refl _) (hag.keep (keeps_below hba))).mono ?_; rintro e w1 ⟨rfl, hb1⟩
      rw [HPB.out]
      have hw1 := below_then hb1 hba.size hba
      have bx1 := bxL.on hb1; have br1 := brL.on hb1
      clear q0 q1 q2 bxL brL hba hb1
      go_wp2_with fail
      refine (l1In _ _ _ _).mono ?_; rintro e w2 ⟨rfl, hq2⟩
      rw [HIN.out]
      have hw2 := below_qt hq2 hw1
      have hb2 := below_qt hq2 (Below.refl w1.heap.size w1)
      have bx2 := bx1.on hb2; have br2 := br1.on hb2
      have hl2 : w.heap.size + 2 ≤ w2.heap.size := br2.lt
      clear bx1 br1 hw1 hq2 hb2
      have q0 := bx2.c0; have q1 := bx2.c1; have q2 := bx2.c2
      have HAT := Lib.hid (show attrR g.1 g.2.1 who (allL n2) (setW (loopL g) who) = attrL g.1 g.2.1 who (allL n2) (setW (loopL g) who) from
        have hA := parB_parts HPB.out
        have hS : setB (setW (loopL g) who) (g.1.length : Int) = true := by have h3 := setW_set (loopL g) who; rw [HLL.out] at h3; rw [HL.out]; exact h3
        have h1 : okA g.1 g.2.1 who (setW (loopL g) who) = true := by unfold okA; rw [hA, HIN.out, hS]; rfl
        have h2 : okA g.1 g.2.1 who (allL n2) = true := by have := okA_all h1; rw [HL.out, ← H20.out] at this; exact this
        attrR_yes h2 h1)
      have HRS := Lib.hid (show lessL (allL n2) (attrL g.1 g.2.1 who (allL n2) (setW (loopL g) who)) = restS g who by unfold restS; rw [HL.out, H20.out])
      have hTl : (attrL g.1 g.2.1 who (allL n2) (setW (loopL g) who)).length ≤ 256 := by have h3 := set_len (attrL_set g.1 g.2.1 who (allL n2) (setW (loopL g) who)) (by omega); have := HF.out.1.2.1; omega
      have HS1 := Lib.hid (show setB (allL n2) 256 = true from setB_wide (allL_set n2) (by omega))
      have HS2 := Lib.hid (show setB (attrL g.1 g.2.1 who (allL n2) (setW (loopL g) who)) 256 = true from setB_wide (attrL_set _ _ _ _ _) (by have := HF.out.1.2.1; omega))
      generalize attrL g.1 g.2.1 who (allL n2) (setW (loopL g) who) = at_ at *
      go_upto_region 4 with (fail)
      go_cut [8] (fun u8 wx => Hid (∃ (T : Option Addr) (cT : Nat), u8 = .slice T at_.length cT ∧ RI wx T at_.length cT at_ ∧ Box wx w.heap.size 33 #[.slice A0 n0 c0, .slice A1 n1 c1, .slice A2 n2 c2] ∧ Box wx (w.heap.size + 1) 33 #[.slice none 0 0, .slice none 0 0, .slice none 0 0] ∧ Below w.heap.size w wx))
      case first =>
        have hwC := Below.drew hw2
        have bxC : Box w2.drew w.heap.size 33 #[.slice A0 n0 c0, .slice A1 n1 c1, .slice A2 n2 c2] := bx2
        have brC : Box w2.drew (w.heap.size + 1) 33 #[.slice none 0 0, .slice none 0 0, .slice none 0 0] := br2
        replace q0 := bxC.c0; replace q1 := bxC.c1; replace q2 := bxC.c2
        refine wp_region_held_drew (S := (fun w' => w'.cell? ⟨w.heap.size, 0, none⟩ = some (.slice A0 n0 c0) ∧ w'.cell? ⟨w.heap.size, 1, none⟩ = some (.slice A1 n1 c1) ∧ w'.cell? ⟨w.heap.size, 2, none⟩ = some (.slice A2 n2 c2))) (by kernel_rfl) (⟨q0, q1, q2⟩) (fun hHeld => ?_)
        clear hw2 bx2 br2
        generalize w2.drew = wD at *
        refine takeH0 (v := ?_) (by kernel_rfl) (by kernel_rfl) (by kernel_rfl) (fun _ _ _ h => h) hHeld (by rfl) ?_ ?_
        rotate_left; · (intro w hSw; (try dsimp only at hSw); go_simp; try with_reducible rfl)
        try simp only [Act.put, List.setIfInBounds_toArray, List.set_cons_zero, List.set_cons_succ]
        refine takeH1 (v := ?_) (by kernel_rfl) (by kernel_rfl) (by kernel_rfl) (fun _ _ _ h => h) hHeld (by rfl) ?_ ?_
        rotate_left; · (intro w hSw; (try dsimp only at hSw); go_simp; try with_reducible rfl)
        try simp only [Act.put, List.setIfInBounds_toArray, List.set_cons_zero, List.set_cons_succ]
        refine takeH2 (v := ?_) (by kernel_rfl) (by kernel_rfl) (by kernel_rfl) (fun _ _ _ h => h) hHeld (by rfl) ?_ ?_
        rotate_left; · (intro w hSw; (try dsimp only at hSw); go_simp; try with_reducible rfl)
        try simp only [Act.put, List.setIfInBounds_toArray, List.set_cons_zero, List.set_cons_succ]
        refine takeH3 (v := ?_) (by kernel_rfl) (by kernel_rfl) (by kernel_rfl) (fun _ _ _ h => h) hHeld (by rfl) ?_ ?_
        rotate_left; · (intro w hSw; (try dsimp only at hSw); go_simp; try with_reducible rfl)
        try simp only [Act.put, List.setIfInBounds_toArray, List.set_cons_zero, List.set_cons_succ]
        refine takeH5 (v := ?_) (by kernel_rfl) (by kernel_rfl) (by kernel_rfl) (fun _ _ _ h => h) hHeld (by rfl) ?_ ?_
        rotate_left; · (intro w hSw; (try dsimp only at hSw); go_simp; try with_reducible rfl)
        try simp only [Act.put, List.setIfInBounds_toArray, List.set_cons_zero, List.set_cons_succ]
        refine takeH7 (v := ?_) (by kernel_rfl) (by kernel_rfl) (by kernel_rfl) (fun _ _ _ h => h) hHeld (by rfl) ?_ ?_
        rotate_left; · (intro w hSw; (try dsimp only at hSw); go_simp; try with_reducible rfl)
        try simp only [Act.put, List.setIfInBounds_toArray, List.set_cons_zero, List.set_cons_succ]
        refine callH4 (by kernel_rfl) (fun K hK => ?_)
        go_simp
        go_at_call 88
        refine (specAllOf _ _ _ (Nat.le_refl _) (by omega) (by omega)).mono ?_; rintro e wA ⟨vA, rfl, hoA, hbA⟩
        rw [Int.toNat_natCast] at hoA
        obtain ⟨AA, cA, rfl⟩ := hoA.form
        have hwN := below_then hbA hwC.size hwC
        have bxN := bxC.on hbA; have brN := brC.on hbA
        clear q0 q1 q2 hwC bxC brC
        have hwC := hwN; have bxC := bxN; have brC := brN
        clear hwN bxN brN
        have q0 := bxC.c0; have q1 := bxC.c1; have q2 := bxC.c2
        clear hbA
        go_wp2_with fail
        refine hK.out _ _ (⟨q0, q1, q2⟩) (fun hHeld => ?_)
        clear hK K
        try simp only [Act.put, List.setIfInBounds_toArray, List.set_cons_zero, List.set_cons_succ]
        refine callH6 (by kernel_rfl) (fun K hK => ?_)
        go_simp
        go_at_call 90
        refine (specLoopWon _ _ _ g _ _ (Nat.le_refl _) (hag.keep (keeps_below hwC)) HPB.out).mono ?_; rintro e wL ⟨vL, rfl, hoL, hbL⟩
        obtain ⟨AL, cL, rfl⟩ := hoL.form
        have hwN := below_then hbL hwC.size hwC
        have bxN := bxC.on hbL; have brN := brC.on hbL
        replace hoA := hoA.below hbL
        clear q0 q1 q2 hwC bxC brC
        have hwC := hwN; have bxC := bxN; have brC := brN
        clear hwN bxN brN
        have q0 := bxC.c0; have q1 := bxC.c1; have q2 := bxC.c2
        clear hbL
        go_wp2_with fail
        refine hK.out _ _ (⟨q0, q1, q2⟩) (fun hHeld => ?_)
        clear hK K
        try simp only [Act.put, List.setIfInBounds_toArray, List.set_cons_zero, List.set_cons_succ]
        refine callH8 (by kernel_rfl) (fun K hK => ?_)
        go_simp
        go_at_call 89
        refine (l7Set _ _ _ (loopL g) who _ _ (Nat.le_refl _) hoL.reads (by rw [HLL.out]; omega)).mono ?_; rintro e wS ⟨vS, rfl, hoS, hbS⟩
        obtain ⟨AS, cS, rfl⟩ := hoS.form
        have hwN := below_then hbS hwC.size hwC
        have bxN := bxC.on hbS; have brN := brC.on hbS
        replace hoA := hoA.below hbS
        replace hoL := hoL.below hbS
        clear q0 q1 q2 hwC bxC brC
        have hwC := hwN; have bxC := bxN; have brC := brN
        clear hwN bxN brN
        have q0 := bxC.c0; have q1 := bxC.c1; have q2 := bxC.c2
        clear hbS
        go_wp2_with fail
        refine hK.out _ _ (⟨q0, q1, q2⟩) (fun hHeld => ?_)
        clear hK K
        try simp only [Act.put, List.setIfInBounds_toArray, List.set_cons_zero, List.set_cons_succ]
        refine callH9 (by kernel_rfl) (fun K hK => ?_)
        go_simp
        go_at_call 87
        refine (specAttract _ _ _ _ _ _ _ _ _ _ _ _ g.1 g.2.1 who (allL n2) (setW (loopL g) who) _ _ (Nat.le_refl _) (hag.keep (keeps_below hwC)).1.ri (hag.keep (keeps_below hwC)).1.rii hoA.reads hoS.reads).mono ?_; rintro e wT ⟨vT, rfl, hoT, hbT⟩
        rw [HAT.out] at hoT
        obtain ⟨AT, cT, rfl⟩ := hoT.form
        have hwN := below_then hbT hwC.size hwC
        have bxN := bxC.on hbT; have brN := brC.on hbT
        clear q0 q1 q2 hwC bxC brC
        have hwC := hwN; have bxC := bxN; have brC := brN
        clear hwN bxN brN
        have q0 := bxC.c0; have q1 := bxC.c1; have q2 := bxC.c2
        clear hbT
        go_wp2_with fail
        refine hK.out _ _ (⟨q0, q1, q2⟩) (fun hHeld => ?_)
        clear hK K
        try simp only [Act.put, List.setIfInBounds_toArray, List.set_cons_zero, List.set_cons_succ]
        refine takeH10 (v := ?_) (by kernel_rfl) (by kernel_rfl) (by kernel_rfl) (fun _ _ _ h => h) hHeld (by rfl) ?_ ?_
        rotate_left; · (intro w hSw; (try dsimp only at hSw); go_simp; try with_reducible rfl)
        try simp only [Act.put, List.setIfInBounds_toArray, List.set_cons_zero, List.set_cons_succ]
        refine wpAnyH_done (by kernel_rfl) ?_ _
        go_wp2_with fail; go_meet
        refine Lib.hid ⟨_, _, rfl, hoT.reads, bxC, brC, hwC⟩
      case rest =>
        obtain ⟨T, cT, rfl, hrT, bx3, br3, hw3⟩ := hcut.out
        clear hcut q0 q1 q2 bx2 br2 hw2
        have hl3 : w.heap.size + 2 ≤ wc.heap.size := br3.lt
        go_wp2_with fail
        refine (specAllOf _ _ _ (Nat.le_refl _) (by omega) (by omega)).mono ?_; rintro e w4 ⟨vA, rfl, hoA, hb4⟩
        rw [Int.toNat_natCast] at hoA
        have hw4 := below_then hb4 hw3.size hw3
        have bx4 := bx3.on hb4; have br4 := br3.on hb4
        have hrT4 := hrT.keep (keeps_below hb4)
        have hal := allL_len n2
        obtain ⟨AA, cA, rfl⟩ := hoA.form
        have hAl : (allL n2).length ≤ 256 := by omega
        have hl4 : w.heap.size + 2 ≤ w4.heap.size := br4.lt
        clear hrT bx3 br3 hal
        go_wp2_with fail
        refine (specLessOf _ _ _ _ _ _ (allL n2) at_ _ _ (Nat.le_refl _) hoA.reads hrT4 HS1.out HS2.out).mono ?_; rintro e w7 ⟨vR, rfl, ho, hb7⟩
        rw [HRS.out] at ho
        have hw7 := below_then hb7 hw4.size hw4
        have bx7 := bx4.on hb7; have br7 := br4.on hb7
        have hsz7 := hb7.size
        clear hoA hrT4 bx4 br4
        have q0 := bx7.c0; have q1 := bx7.c1; have q2 := bx7.c2
        have hlr := restS_len HF.out who
        obtain ⟨Ar, cr, rfl⟩ := ho.form
        go_wp2_with fail
        refine (specSubgameOf _ _ _ g _ _ _ (restS g who) _ _ (Nat.le_refl _) (hag.keep (keeps_below hw7)) ho.reads).mono ?_; rintro e w8 ⟨t0, t1, t2, rfl, ho8, hb8⟩
        have hw8 := below_then hb8 hw7.size hw7
        have br8 := br7.on hb8
        obtain ⟨T0, e0, T1, e1, T2, e2, rfl, rfl, rfl⟩ := ho8.form
        clear q0 q1 q2
        have hbA : Below w8.heap.size w8 (w8.alloc (.cells #[.slice T0 (subG g (restS g who)).1.length e0, .slice T1 (subG g (restS g who)).2.1.length e1, .slice T2 (subG g (restS g who)).2.2.length e2] 33)) := below_alloc (Nat.le_refl _) (Below.refl _ _)
        have bA := Box.new w8 33 #[.slice T0 (subG g (restS g who)).1.length e0, .slice T1 (subG g (restS g who)).2.1.length e1, .slice T2 (subG g (restS g who)).2.2.length e2]
        have hwA := below_then hbA hw8.size hw8
        have brA := br8.on hbA
        cases hok : okSub g (restS g who) with
        | false =>
          have E := Lib.hid (okRest_no2 hok)
          clear hok
          have x0 := br8.c0; have x1 := br8.c1; have x2 := br8.c2; have v0 := br8.hot 0; have v1 := br8.hot 1; have v2 := br8.hot 2
          have z0 := brA.c0; have z1 := brA.c1; have z2 := brA.c2; have y0 := brA.hot 0; have y1 := brA.hot 1; have y2 := brA.hot 2
          have hwE := below_alloc (o := .cells #[] 2) (Nat.le_refl _) hwA
          have bE := brA.alloc (.cells #[] 2)
          have hsB := brA.lt
          have hsW := hwA.size
          have z0A := bE.c0; have z1A := bE.c1; have z2A := bE.c2; have y0A := bE.hot 0; have y1A := bE.hot 1; have y2A := bE.hot 2
          obtain ⟨hwZ, bxZ⟩ := zero3 hwE (by omega) bE (.slice none 0 0) (.slice none 0 0) (.slice none 0 0)
          have hem := (OI.empty (E := 2) (w := (w8.alloc (.cells #[.slice T0 (subG g (restS g who)).1.length e0, .slice T1 (subG g (restS g who)).2.1.length e1, .slice T2 (subG g (restS g who)).2.2.length e2] 33))) (B := (w8.alloc (.cells #[.slice T0 (subG g (restS g who)).1.length e0, .slice T1 (subG g (restS g who)).2.1.length e1, .slice T2 (subG g (restS g who)).2.2.length e2] 33)).heap.size) (Nat.le_refl _)).chg (Chg.set3 ((w8.alloc (.cells #[.slice T0 (subG g (restS g who)).1.length e0, .slice T1 (subG g (restS g who)).2.1.length e1, .slice T2 (subG g (restS g who)).2.2.length e2] 33)).alloc (.cells #[] 2)) (w.heap.size + 1) (.slice none 0 0) (.slice none 0 0) (.slice none 0 0)) (fun y hy e => by have h3 : y = w.heap.size + 1 := e; have h4 : some (w8.alloc (.cells #[.slice T0 (subG g (restS g who)).1.length e0, .slice T1 (subG g (restS g who)).2.1.length e1, .slice T2 (subG g (restS g who)).2.2.length e2] 33)).heap.size = some y := hy; injection h4 with h4; omega)
          have hem2 := hem.more (lo' := B) (by omega)
          have hsE := hwZ.size
          have hbZ := hwZ.mono hB
          clear hem
          go_wp2
          have R0 := bxZ.c0; have R1 := bxZ.c1; have R2 := bxZ.c2
          first | (refine bodyPost_ret (v := .tuple #[.agg #[.slice none 0 0, .slice none 0 0, .slice none 0 0], .slice (some ⟨(w8.alloc (.cells #[.slice T0 (subG g (restS g who)).1.length e0, .slice T1 (subG g (restS g who)).2.1.length e1, .slice T2 (subG g (restS g who)).2.2.length e2] 33)).heap.size, 0, none⟩) 0 0, .bool false]) (by simp [results, Try.results24, go_sem, R0, R1, R2]) rfl ⟨_, _, _, _, _, _, by rw [E.out], by rw [restG_no E.out]; exact OPar.nil _ _, by rw [restL_no E.out]; exact hem2, Far.refl _ _, ⟨Nat.le_refl _, Nat.le_trans hB hsE⟩, hbZ⟩) | (refine bodyPost_ret (v := .tuple #[.agg #[.slice none 0 0, .slice none 0 0, .slice none 0 0], .slice (some ⟨w8.heap.size + 1, 0, none⟩) 0 0, .bool false]) (by simp [results, Try.results24, go_sem, R0, R1, R2]) rfl ⟨_, _, _, _, _, _, by rw [E.out], by rw [restG_no E.out]; exact OPar.nil _ _, by rw [restL_no E.out]; simpa using hem2, Far.refl _ _, ⟨Nat.le_refl _, Nat.le_trans hB hsE⟩, hbZ⟩)
        | true =>
          have E := Lib.hid (okRest_yes HOK.out hok)
          have HG := Lib.hid (restG_yes E.out); have HR := Lib.hid (restL_yes E.out)
          clear hok
          have hoA := ho8.below hbA
          have a0 := bA.c0; have a1 := bA.c1; have a2 := bA.c2
          have z0 := brA.c0; have z1 := brA.c1; have z2 := brA.c2; have y0 := brA.hot 0; have y1 := brA.hot 1; have y2 := brA.hot 2
          have hzl := br7.lt
          have hsz8 := hb8.size
          generalize subG g (restS g who) = sg at *
          generalize restS g who = rs at *
          obtain ⟨hF2, hF3⟩ := zero3 hwA (Nat.le_succ _) brA (.slice T0 sg.1.length e0) (.slice T1 sg.2.1.length e1) (.slice T2 sg.2.2.length e2)
          have R0 := hF3.c0; have R1 := hF3.c1; have R2 := hF3.c2
          have chF := Chg.set3 (w8.alloc (.cells #[.slice T0 sg.1.length e0, .slice T1 sg.2.1.length e1, .slice T2 sg.2.2.length e2] 33)) (w.heap.size + 1) (.slice T0 sg.1.length e0) (.slice T1 sg.2.1.length e1) (.slice T2 sg.2.2.length e2)
          have hoF := hoA.chg chF (fun y hy => by have h3 : y = w.heap.size + 1 := hy; omega)
          have hfr : Far w4.heap.size w7 _ := (((Far.refl w4.heap.size w7).step hb8).step hbA).of_chg chF (fun y hy => .inl (by have h3 : y = w.heap.size + 1 := hy; omega))
          go_wp2
          exact bodyPost_ret (v := .tuple #[.agg #[.slice T0 sg.1.length e0, .slice T1 sg.2.1.length e1, .slice T2 sg.2.2.length e2], .slice Ar rs.length cr, .bool true]) (by simp [results, Try.results24, go_sem, R0, R1, R2]) rfl ⟨w7, w4.heap.size, _, _, _, _, by rw [E.out], by rw [HG.out]; exact hoF, by rw [HR.out]; exact ho, hfr, ⟨by omega, by omega⟩, hF2.mono hB⟩

end Go.Proofs.Ytlmhhnplacejkaa
