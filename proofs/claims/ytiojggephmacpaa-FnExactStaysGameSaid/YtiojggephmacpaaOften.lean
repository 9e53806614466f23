/- OftenGame, StaysGame. -/
import Derived.Test.YtiojggephmacpaaMarked
namespace Go.Proofs.Ytiojggephmacpaa
open Go.RowKit
theorem oftenG_yes {z : ArD} {s : List Int} {a b : Int} (h : okA z.1 z.2 0 s = true) : oftenG z s a b = markedG z s a b := by unfold oftenG; rw [if_pos h]
theorem oftenG_no {z : ArD} {s : List Int} {a b : Int} (h : okA z.1 z.2 0 s = false) : oftenG z s a b = ([], [], []) := by unfold oftenG; rw [if_neg (by rw [h]; decide)]

set_option maxRecDepth 100000 in
set_option maxHeartbeats 800000 in
theorem specOftenGame (s0 s1 : Value) (C : Option Addr) (m d : Nat) (z : ArD) (s : List Int) (w : World) (B : Nat) (hB : B ≤ w.heap.size) (ha : RAv w s0 s1 z.1 z.2) (hs : RI w C m d s) :
    Calls Try.prog 47 #[.agg #[s0, s1], .slice C m d] w fun e w' => ∃ t0 t1 t2, e = .returned (.agg #[t0, t1, t2]) ∧ OPar w' B t0 t1 t2 (oftenG z s 2 1) ∧ Below B w w' := by
  obtain ⟨G, hG0⟩ : ∃ G, oftenG z s 2 1 = G := ⟨_, rfl⟩
  rw [hG0]
  have HG := Lib.hid hG0
  clear hG0
  obtain ⟨A0, n0, c0, A1, n1, c1, rfl, rfl⟩ := ha.form
  have hwL : Below w.heap.size w ((w.alloc (.cells #[.slice A0 n0 c0, .slice A1 n1 c1] 64)).alloc (.cells #[.slice none 0 0, .slice none 0 0, .slice none 0 0] 66)) := below_alloc (Nat.le_refl _) (below_alloc (Nat.le_refl _) (Below.refl _ _))
  have bxL := (Box.new w 64 #[.slice A0 n0 c0, .slice A1 n1 c1]).alloc (.cells #[.slice none 0 0, .slice none 0 0, .slice none 0 0] 66)
  have brL : Box ((w.alloc (.cells #[.slice A0 n0 c0, .slice A1 n1 c1] 64)).alloc (.cells #[.slice none 0 0, .slice none 0 0, .slice none 0 0] 66)) (w.heap.size + 1) 66 #[.slice none 0 0, .slice none 0 0, .slice none 0 0] := Box.new' (by simp)
  have hsL : w.heap.size + 2 = ((w.alloc (.cells #[.slice A0 n0 c0, .slice A1 n1 c1] 64)).alloc (.cells #[.slice none 0 0, .slice none 0 0, .slice none 0 0] 66)).heap.size := by simp
  have q0 := bxL.d0; have q1 := bxL.d1
  have HQ := HG
  go_enter Try.func47, Try.ntmps47
  go_wp2_with fail
  generalize ((w.alloc (.cells #[.slice A0 n0 c0, .slice A1 n1 c1] 64)).alloc (.cells #[.slice none 0 0, .slice none 0 0, .slice none 0 0] 66)) = W at *
  replace hsL : w.heap.size + 2 ≤ W.heap.size := by omega
  go_wp2_with (first
    | (go_at_call 97
       refine (l15Game _ _ _ _ _ z s 2 1 _ _ (Nat.le_refl _) (ha.keep (keeps_below hwL)) (hs.keep (keeps_below hwL))).mono ?_
       rintro e w1 ⟨t0, t1, t2, rfl, ho1, hb1⟩
       rw [HQ.out] at ho1
       obtain ⟨X0, d0, X1, d1, X2, d2, rfl, rfl, rfl⟩ := ho1.form
       have br1 := brL.below hb1 (by omega)
       have hs1 := hb1.size
       obtain ⟨e0, e1, e2⟩ := br1.e2
       have f0 := br1.hot 0
       have f1 := br1.hot 1
       have f2 := br1.hot 2
       have hw1 : Below w.heap.size w w1 := hwL.trans (hb1.mono (by omega))))
  have ch := Chg.set3 w1 (w.heap.size + 1) (.slice X0 G.1.length d0) (.slice X1 G.2.1.length d1) (.slice X2 G.2.2.length d2)
  have bF := br1.set3 (.slice X0 G.1.length d0) (.slice X1 G.2.1.length d1) (.slice X2 G.2.2.length d2)
  obtain ⟨R0, R1, R2⟩ := bF.e2
  have hwF := hw1.trans (ch.below (B := w.heap.size) (by omega) (fun b hb => by omega))
  have fin := ho1.chg ch (fun b hb => by omega)
  exact bodyPost_ret (v := .agg #[.slice X0 G.1.length d0, .slice X1 G.2.1.length d1, .slice X2 G.2.2.length d2]) (by simp [results, Try.results47, go_sem, R0, R1, R2]) rfl ⟨_, _, _, rfl, fin.more (by omega), hwF.mono hB⟩

set_option maxRecDepth 100000 in
set_option maxHeartbeats 800000 in
theorem implOftenGame (s0 s1 : Value) (C : Option Addr) (m d : Nat) (z : ArD) (s : List Int) (w : World) (B : Nat) (hB : B ≤ w.heap.size) (ha : RAv w s0 s1 z.1 z.2) (hs : RI w C m d s) :
    Calls Try.prog 49 #[.agg #[s0, s1], .slice C m d] w fun e w' => ∃ t0 t1 t2, e = .returned (.agg #[t0, t1, t2]) ∧ OPar w' B t0 t1 t2 (oftenG z s 2 1) ∧ Below B w w' := by
  obtain ⟨G, hG0⟩ : ∃ G, oftenG z s 2 1 = G := ⟨_, rfl⟩
  rw [hG0]
  have HG := Lib.hid hG0
  clear hG0
  obtain ⟨A0, n0, c0, A1, n1, c1, rfl, rfl⟩ := ha.form
  have hwL : Below w.heap.size w ((w.alloc (.cells #[.slice A0 n0 c0, .slice A1 n1 c1] 64)).alloc (.cells #[.slice none 0 0, .slice none 0 0, .slice none 0 0] 66)) := below_alloc (Nat.le_refl _) (below_alloc (Nat.le_refl _) (Below.refl _ _))
  have bxL := (Box.new w 64 #[.slice A0 n0 c0, .slice A1 n1 c1]).alloc (.cells #[.slice none 0 0, .slice none 0 0, .slice none 0 0] 66)
  have brL : Box ((w.alloc (.cells #[.slice A0 n0 c0, .slice A1 n1 c1] 64)).alloc (.cells #[.slice none 0 0, .slice none 0 0, .slice none 0 0] 66)) (w.heap.size + 1) 66 #[.slice none 0 0, .slice none 0 0, .slice none 0 0] := Box.new' (by simp)
  have hsL : w.heap.size + 2 = ((w.alloc (.cells #[.slice A0 n0 c0, .slice A1 n1 c1] 64)).alloc (.cells #[.slice none 0 0, .slice none 0 0, .slice none 0 0] 66)).heap.size := by simp
  have q0 := bxL.d0; have q1 := bxL.d1
  cases hok : okA z.1 z.2 0 s with
  | false =>
    go_enter Try.func49, Try.ntmps49
    go_wp2_with fail
    generalize ((w.alloc (.cells #[.slice A0 n0 c0, .slice A1 n1 c1] 64)).alloc (.cells #[.slice none 0 0, .slice none 0 0, .slice none 0 0] 66)) = W at *
    replace hsL : w.heap.size + 2 ≤ W.heap.size := by omega
    go_wp2_with (first
      | (go_at_call 99
         refine (canAttract _ _ _ _ _ _ _ _ _ _ _ _ s _ _ (Nat.le_refl _) (ha.ri.keep (keeps_below hwL)) (ha.rii.keep (keeps_below hwL)) (hs.keep (keeps_below hwL))).mono ?_
         rintro e wa ⟨rfl, hba⟩
         rw [hok]
         have hsa := hba.size
         have bxa := bxL.below hba (by omega)
         have bra := brL.below hba (by omega)
         have g0 := bxa.d0
         have g1 := bxa.d1
         obtain ⟨e0, e1, e2⟩ := bra.e2
         have f0 := bra.hot 0
         have f1 := bra.hot 1
         have f2 := bra.hot 2
         have hwa : Below w.heap.size w wa := hwL.trans (hba.mono (by omega))))
    have ch := Chg.set3 wa (w.heap.size + 1) (.slice none 0 0) (.slice none 0 0) (.slice none 0 0)
    have bF := bra.set3 (.slice none 0 0) (.slice none 0 0) (.slice none 0 0)
    obtain ⟨R0, R1, R2⟩ := bF.e2
    have hwF := hwa.trans (ch.below (B := w.heap.size) (by omega) (fun b hb => by omega))
    exact bodyPost_ret (v := .agg #[.slice none 0 0, .slice none 0 0, .slice none 0 0]) (by simp [results, Try.results49, go_sem, R0, R1, R2]) rfl ⟨_, _, _, rfl, by rw [← HG.out, oftenG_no hok]; exact OPar.nil _ _, hwF.mono hB⟩
  | true =>
    have HF := Lib.hid (okA_parts hok)
    have HQ := Lib.hid ((oftenG_yes (a := 2) (b := 1) hok).symm.trans HG.out)
    go_enter Try.func49, Try.ntmps49
    go_wp2_with fail
    generalize ((w.alloc (.cells #[.slice A0 n0 c0, .slice A1 n1 c1] 64)).alloc (.cells #[.slice none 0 0, .slice none 0 0, .slice none 0 0] 66)) = W at *
    replace hsL : w.heap.size + 2 ≤ W.heap.size := by omega
    go_wp2_with (first
      | (go_at_call 99
         refine (canAttract _ _ _ _ _ _ _ _ _ _ _ _ s _ _ (Nat.le_refl _) (ha.ri.keep (keeps_below hwL)) (ha.rii.keep (keeps_below hwL)) (hs.keep (keeps_below hwL))).mono ?_
         rintro e wa ⟨rfl, hba⟩
         rw [hok]
         have hsa := hba.size
         have bxa := bxL.below hba (by omega)
         have bra := brL.below hba (by omega)
         have g0 := bxa.d0
         have g1 := bxa.d1
         obtain ⟨e0, e1, e2⟩ := bra.e2
         have f0 := bra.hot 0
         have f1 := bra.hot 1
         have f2 := bra.hot 2
         have hwa : Below w.heap.size w wa := hwL.trans (hba.mono (by omega)))
      | (go_at_call 100
         refine (markedGame _ _ _ _ _ z s 2 1 _ _ (Nat.le_refl _) (ha.keep (keeps_below hwa)) (hs.keep (keeps_below hwa)) (fineAr_of HF.out.1) HF.out.2.2).mono ?_
         rintro e w1 ⟨t0, t1, t2, rfl, ho1, hb1⟩
         rw [HQ.out] at ho1
         obtain ⟨X0, d0, X1, d1, X2, d2, rfl, rfl, rfl⟩ := ho1.form
         have br1 := bra.below hb1 (by omega)
         have hs1 := hb1.size
         obtain ⟨e0, e1, e2⟩ := br1.e2
         have f0 := br1.hot 0
         have f1 := br1.hot 1
         have f2 := br1.hot 2
         have hw1 : Below w.heap.size w w1 := hwa.trans (hb1.mono (by omega))))
    have ch := Chg.set3 w1 (w.heap.size + 1) (.slice X0 G.1.length d0) (.slice X1 G.2.1.length d1) (.slice X2 G.2.2.length d2)
    have bF := br1.set3 (.slice X0 G.1.length d0) (.slice X1 G.2.1.length d1) (.slice X2 G.2.2.length d2)
    obtain ⟨R0, R1, R2⟩ := bF.e2
    have hwF := hw1.trans (ch.below (B := w.heap.size) (by omega) (fun b hb => by omega))
    have fin := ho1.chg ch (fun b hb => by omega)
    exact bodyPost_ret (v := .agg #[.slice X0 G.1.length d0, .slice X1 G.2.1.length d1, .slice X2 G.2.2.length d2]) (by simp [results, Try.results49, go_sem, R0, R1, R2]) rfl ⟨_, _, _, rfl, fin.more (by omega), hwF.mono hB⟩

set_option maxRecDepth 100000 in
set_option maxHeartbeats 800000 in
theorem specStaysGame (s0 s1 : Value) (C : Option Addr) (m d : Nat) (z : ArD) (s : List Int) (w : World) (B : Nat) (hB : B ≤ w.heap.size) (ha : RAv w s0 s1 z.1 z.2) (hs : RI w C m d s) :
    Calls Try.prog 55 #[.agg #[s0, s1], .slice C m d] w fun e w' => ∃ t0 t1 t2, e = .returned (.agg #[t0, t1, t2]) ∧ OPar w' B t0 t1 t2 (oftenG z s 0 1) ∧ Below B w w' := by
  obtain ⟨G, hG0⟩ : ∃ G, oftenG z s 0 1 = G := ⟨_, rfl⟩
  rw [hG0]
  have HG := Lib.hid hG0
  clear hG0
  obtain ⟨A0, n0, c0, A1, n1, c1, rfl, rfl⟩ := ha.form
  have hwL : Below w.heap.size w ((w.alloc (.cells #[.slice A0 n0 c0, .slice A1 n1 c1] 64)).alloc (.cells #[.slice none 0 0, .slice none 0 0, .slice none 0 0] 66)) := below_alloc (Nat.le_refl _) (below_alloc (Nat.le_refl _) (Below.refl _ _))
  have bxL := (Box.new w 64 #[.slice A0 n0 c0, .slice A1 n1 c1]).alloc (.cells #[.slice none 0 0, .slice none 0 0, .slice none 0 0] 66)
  have brL : Box ((w.alloc (.cells #[.slice A0 n0 c0, .slice A1 n1 c1] 64)).alloc (.cells #[.slice none 0 0, .slice none 0 0, .slice none 0 0] 66)) (w.heap.size + 1) 66 #[.slice none 0 0, .slice none 0 0, .slice none 0 0] := Box.new' (by simp)
  have hsL : w.heap.size + 2 = ((w.alloc (.cells #[.slice A0 n0 c0, .slice A1 n1 c1] 64)).alloc (.cells #[.slice none 0 0, .slice none 0 0, .slice none 0 0] 66)).heap.size := by simp
  have q0 := bxL.d0; have q1 := bxL.d1
  have HQ := HG
  go_enter Try.func55, Try.ntmps55
  go_wp2_with fail
  generalize ((w.alloc (.cells #[.slice A0 n0 c0, .slice A1 n1 c1] 64)).alloc (.cells #[.slice none 0 0, .slice none 0 0, .slice none 0 0] 66)) = W at *
  replace hsL : w.heap.size + 2 ≤ W.heap.size := by omega
  go_wp2_with (first
    | (go_at_call 97
       refine (l15Game _ _ _ _ _ z s 0 1 _ _ (Nat.le_refl _) (ha.keep (keeps_below hwL)) (hs.keep (keeps_below hwL))).mono ?_
       rintro e w1 ⟨t0, t1, t2, rfl, ho1, hb1⟩
       rw [HQ.out] at ho1
       obtain ⟨X0, d0, X1, d1, X2, d2, rfl, rfl, rfl⟩ := ho1.form
       have br1 := brL.below hb1 (by omega)
       have hs1 := hb1.size
       obtain ⟨e0, e1, e2⟩ := br1.e2
       have f0 := br1.hot 0
       have f1 := br1.hot 1
       have f2 := br1.hot 2
       have hw1 : Below w.heap.size w w1 := hwL.trans (hb1.mono (by omega))))
  have ch := Chg.set3 w1 (w.heap.size + 1) (.slice X0 G.1.length d0) (.slice X1 G.2.1.length d1) (.slice X2 G.2.2.length d2)
  have bF := br1.set3 (.slice X0 G.1.length d0) (.slice X1 G.2.1.length d1) (.slice X2 G.2.2.length d2)
  obtain ⟨R0, R1, R2⟩ := bF.e2
  have hwF := hw1.trans (ch.below (B := w.heap.size) (by omega) (fun b hb => by omega))
  have fin := ho1.chg ch (fun b hb => by omega)
  exact bodyPost_ret (v := .agg #[.slice X0 G.1.length d0, .slice X1 G.2.1.length d1, .slice X2 G.2.2.length d2]) (by simp [results, Try.results55, go_sem, R0, R1, R2]) rfl ⟨_, _, _, rfl, fin.more (by omega), hwF.mono hB⟩

set_option maxRecDepth 100000 in
set_option maxHeartbeats 800000 in
theorem implStaysGame (s0 s1 : Value) (C : Option Addr) (m d : Nat) (z : ArD) (s : List Int) (w : World) (B : Nat) (hB : B ≤ w.heap.size) (ha : RAv w s0 s1 z.1 z.2) (hs : RI w C m d s) :
    Calls Try.prog 56 #[.agg #[s0, s1], .slice C m d] w fun e w' => ∃ t0 t1 t2, e = .returned (.agg #[t0, t1, t2]) ∧ OPar w' B t0 t1 t2 (oftenG z s 0 1) ∧ Below B w w' := by
  obtain ⟨G, hG0⟩ : ∃ G, oftenG z s 0 1 = G := ⟨_, rfl⟩
  rw [hG0]
  have HG := Lib.hid hG0
  clear hG0
  obtain ⟨A0, n0, c0, A1, n1, c1, rfl, rfl⟩ := ha.form
  have hwL : Below w.heap.size w ((w.alloc (.cells #[.slice A0 n0 c0, .slice A1 n1 c1] 64)).alloc (.cells #[.slice none 0 0, .slice none 0 0, .slice none 0 0] 66)) := below_alloc (Nat.le_refl _) (below_alloc (Nat.le_refl _) (Below.refl _ _))
  have bxL := (Box.new w 64 #[.slice A0 n0 c0, .slice A1 n1 c1]).alloc (.cells #[.slice none 0 0, .slice none 0 0, .slice none 0 0] 66)
  have brL : Box ((w.alloc (.cells #[.slice A0 n0 c0, .slice A1 n1 c1] 64)).alloc (.cells #[.slice none 0 0, .slice none 0 0, .slice none 0 0] 66)) (w.heap.size + 1) 66 #[.slice none 0 0, .slice none 0 0, .slice none 0 0] := Box.new' (by simp)
  have hsL : w.heap.size + 2 = ((w.alloc (.cells #[.slice A0 n0 c0, .slice A1 n1 c1] 64)).alloc (.cells #[.slice none 0 0, .slice none 0 0, .slice none 0 0] 66)).heap.size := by simp
  have q0 := bxL.d0; have q1 := bxL.d1
  cases hok : okA z.1 z.2 0 s with
  | false =>
    go_enter Try.func56, Try.ntmps56
    go_wp2_with fail
    generalize ((w.alloc (.cells #[.slice A0 n0 c0, .slice A1 n1 c1] 64)).alloc (.cells #[.slice none 0 0, .slice none 0 0, .slice none 0 0] 66)) = W at *
    replace hsL : w.heap.size + 2 ≤ W.heap.size := by omega
    go_wp2_with (first
      | (go_at_call 99
         refine (canAttract _ _ _ _ _ _ _ _ _ _ _ _ s _ _ (Nat.le_refl _) (ha.ri.keep (keeps_below hwL)) (ha.rii.keep (keeps_below hwL)) (hs.keep (keeps_below hwL))).mono ?_
         rintro e wa ⟨rfl, hba⟩
         rw [hok]
         have hsa := hba.size
         have bxa := bxL.below hba (by omega)
         have bra := brL.below hba (by omega)
         have g0 := bxa.d0
         have g1 := bxa.d1
         obtain ⟨e0, e1, e2⟩ := bra.e2
         have f0 := bra.hot 0
         have f1 := bra.hot 1
         have f2 := bra.hot 2
         have hwa : Below w.heap.size w wa := hwL.trans (hba.mono (by omega))))
    have ch := Chg.set3 wa (w.heap.size + 1) (.slice none 0 0) (.slice none 0 0) (.slice none 0 0)
    have bF := bra.set3 (.slice none 0 0) (.slice none 0 0) (.slice none 0 0)
    obtain ⟨R0, R1, R2⟩ := bF.e2
    have hwF := hwa.trans (ch.below (B := w.heap.size) (by omega) (fun b hb => by omega))
    exact bodyPost_ret (v := .agg #[.slice none 0 0, .slice none 0 0, .slice none 0 0]) (by simp [results, Try.results56, go_sem, R0, R1, R2]) rfl ⟨_, _, _, rfl, by rw [← HG.out, oftenG_no hok]; exact OPar.nil _ _, hwF.mono hB⟩
  | true =>
    have HF := Lib.hid (okA_parts hok)
    have HQ := Lib.hid ((oftenG_yes (a := 0) (b := 1) hok).symm.trans HG.out)
    go_enter Try.func56, Try.ntmps56
    go_wp2_with fail
    generalize ((w.alloc (.cells #[.slice A0 n0 c0, .slice A1 n1 c1] 64)).alloc (.cells #[.slice none 0 0, .slice none 0 0, .slice none 0 0] 66)) = W at *
    replace hsL : w.heap.size + 2 ≤ W.heap.size := by omega
    go_wp2_with (first
      | (go_at_call 99
         refine (canAttract _ _ _ _ _ _ _ _ _ _ _ _ s _ _ (Nat.le_refl _) (ha.ri.keep (keeps_below hwL)) (ha.rii.keep (keeps_below hwL)) (hs.keep (keeps_below hwL))).mono ?_
         rintro e wa ⟨rfl, hba⟩
         rw [hok]
         have hsa := hba.size
         have bxa := bxL.below hba (by omega)
         have bra := brL.below hba (by omega)
         have g0 := bxa.d0
         have g1 := bxa.d1
         obtain ⟨e0, e1, e2⟩ := bra.e2
         have f0 := bra.hot 0
         have f1 := bra.hot 1
         have f2 := bra.hot 2
         have hwa : Below w.heap.size w wa := hwL.trans (hba.mono (by omega)))
      | (go_at_call 100
         refine (markedGame _ _ _ _ _ z s 0 1 _ _ (Nat.le_refl _) (ha.keep (keeps_below hwa)) (hs.keep (keeps_below hwa)) (fineAr_of HF.out.1) HF.out.2.2).mono ?_
         rintro e w1 ⟨t0, t1, t2, rfl, ho1, hb1⟩
         rw [HQ.out] at ho1
         obtain ⟨X0, d0, X1, d1, X2, d2, rfl, rfl, rfl⟩ := ho1.form
         have br1 := bra.below hb1 (by omega)
         have hs1 := hb1.size
         obtain ⟨e0, e1, e2⟩ := br1.e2
         have f0 := br1.hot 0
         have f1 := br1.hot 1
         have f2 := br1.hot 2
         have hw1 : Below w.heap.size w w1 := hwa.trans (hb1.mono (by omega))))
    have ch := Chg.set3 w1 (w.heap.size + 1) (.slice X0 G.1.length d0) (.slice X1 G.2.1.length d1) (.slice X2 G.2.2.length d2)
    have bF := br1.set3 (.slice X0 G.1.length d0) (.slice X1 G.2.1.length d1) (.slice X2 G.2.2.length d2)
    obtain ⟨R0, R1, R2⟩ := bF.e2
    have hwF := hw1.trans (ch.below (B := w.heap.size) (by omega) (fun b hb => by omega))
    have fin := ho1.chg ch (fun b hb => by omega)
    exact bodyPost_ret (v := .agg #[.slice X0 G.1.length d0, .slice X1 G.2.1.length d1, .slice X2 G.2.2.length d2]) (by simp [results, Try.results56, go_sem, R0, R1, R2]) rfl ⟨_, _, _, rfl, fin.more (by omega), hwF.mono hB⟩

theorem often_tot (z : ArD) (s : List Int) (a b : Int) : ptot (oftenG z s a b) ≤ 2 * artot z.1 z.2 := by
  cases h : okA z.1 z.2 0 s with
  | true => rw [oftenG_yes h]; unfold ptot markedG artot; rw [prioUp_len]; dsimp only; omega
  | false => rw [oftenG_no h]; simp [ptot, artot, tot]

end Go.Proofs.Ytiojggephmacpaa
