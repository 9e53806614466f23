/- A game out of an arena and a marked set: markedGame, l15Game. -/
import Derived.Test.YtiojggephmacpaaCopy3
namespace Go.Proofs.Ytiojggephmacpaa
open Go.RowKit

def prioUp (s : List Int) (a b : Int) (k : Nat) : List Int := (List.range k).map fun (i : Nat) => if hasL s (i : Int) = true then a else b
theorem prioUp_len (s : List Int) (a b : Int) (k : Nat) : (prioUp s a b k).length = k := by simp [prioUp]
theorem prioUp_yes {s : List Int} {a b : Int} {k : Nat} (h : hasL s (k : Int) = true) : prioUp s a b (k + 1) = prioUp s a b k ++ [a] := by simp [prioUp, List.range_succ, h]
theorem prioUp_no {s : List Int} {a b : Int} {k : Nat} (h : hasL s (k : Int) = false) : prioUp s a b (k + 1) = prioUp s a b k ++ [b] := by simp [prioUp, List.range_succ, h]
def markedG (z : ArD) (s : List Int) (a b : Int) : ParD := (z.1, z.2, prioUp s a b z.1.length)

theorem RI.one1 {w : World} {b : Nat} {x : Int} (h : w.cell? ⟨b, 0, none⟩ = some (.int .i64 x)) : RI w (some ⟨b, 0, none⟩) 1 1 [x] :=
  ⟨rfl, ⟨by omega, by omega⟩, fun i hi => ⟨b, 0, rfl, by
    obtain rfl : i = 0 := by omega
    simpa [gi] using h⟩⟩
theorem Chg.then_below {S : Nat → Prop} {a b c : World} {B : Nat} (h : Chg S a b) (k : Below B b c) (hB : a.heap.size ≤ B) : Chg S a c :=
  ⟨k.os.trans h.os, k.tape.trans h.tape, k.output.trans h.output, Nat.le_trans h.size k.size, fun x hx hu => (k.block x (by omega)).trans (h.block x hx hu)⟩
theorem OB.chg1 {E : TypeId} {S : Nat → Prop} {w w' : World} {lo : Nat} {v : Value} {xs : List Bool} (h : OB E w lo v xs) (hc : Chg S w w') (hS : ∀ b, S b → b < lo) : OB E w' lo v xs :=
  row_chg h hc fun b hb hs => by have := (h.lt b hb).1; have := hS b hs; omega
theorem OPar.join {wC wF : World} {lo loC : Nat} {s0 s1 s2 : Value} {z : ArD} {P : List Int} (h : OArn wC lo s0 s1 z) (hb : Below wC.heap.size wC wF) (h2 : OI 2 wF loC s2 P) (hlo : wC.heap.size ≤ loC) (hl : lo ≤ wC.heap.size) : OPar wF lo s0 s1 s2 (z.1, z.2, P) := by
  obtain ⟨cs, ⟨h0, h1, h3⟩, hd⟩ := h
  refine ⟨cs, ⟨h0.below hb, row_below h1 hb, h3.below hb⟩, h2.more (by omega), ?_⟩
  refine Dis.cons (Dis.cons hd.tail fun i hi => ?_) fun i hi => ?_
  · exact (apart_sep (H := wC.heap.size) (fun b hb => (h3.lt i hi b hb).2) (fun b hb => Nat.le_trans hlo (h2.lt b hb).1)).symm
  · cases i with
    | zero => exact apart_sep (H := wC.heap.size) (fun b hb => (h0.lt b hb).2) (fun b hb => Nat.le_trans hlo (h2.lt b hb).1)
    | succ j => exact hd.head (i := j) (by simpa using hi)
theorem Box.e2 {w : World} {b : Nat} {t : TypeId} {x0 x1 x2 : Value} (h : Box w b t #[x0, x1, x2]) : w.cell? ⟨b, 0, none⟩ = some x0 ∧ w.cell? ⟨b, 1, none⟩ = some x1 ∧ w.cell? ⟨b, 2, none⟩ = some x2 := ⟨h.cell 0, h.cell 1, h.cell 2⟩

set_option maxRecDepth 100000 in
set_option maxHeartbeats 1600000 in
theorem markedGame (s0 s1 : Value) (C : Option Addr) (m d : Nat) (z : ArD) (s : List Int) (a b : Int) (w : World) (B : Nat) (hB : B ≤ w.heap.size) (ha : RAv w s0 s1 z.1 z.2) (hs : RI w C m d s) (hf : fineAr z.1 z.2) (hst : setB s z.1.length = true) :
    Calls Try.prog 100 #[.agg #[s0, s1], .slice C m d, .int .i64 a, .int .i64 b] w fun e w' => ∃ t0 t1 t2, e = .returned (.agg #[t0, t1, t2]) ∧ OPar w' B t0 t1 t2 (markedG z s a b) ∧ Below B w w' := by
  obtain ⟨A0, n0, c0, A1, n1, c1, rfl, rfl⟩ := ha.form
  have hr := ha.ri
  have HL := Lib.hid hr.len
  have hn0 : n0 ≤ 1048576 := by have := hf.2.1; rw [HL.out] at this; omega
  have hset : setB s (n0 : Int) = true := by rw [← HL.out]; exact hst
  have HF := Lib.hid hf
  clear hf hst
  have hwL : Below w.heap.size w ((w.alloc (.cells #[.slice A0 n0 c0, .slice A1 n1 c1] 64)).alloc (.cells #[.slice none 0 0, .slice none 0 0, .slice none 0 0] 66)) := below_alloc (Nat.le_refl _) (below_alloc (Nat.le_refl _) (Below.refl _ _))
  have bxL := (Box.new w 64 #[.slice A0 n0 c0, .slice A1 n1 c1]).alloc (.cells #[.slice none 0 0, .slice none 0 0, .slice none 0 0] 66)
  have brL : Box ((w.alloc (.cells #[.slice A0 n0 c0, .slice A1 n1 c1] 64)).alloc (.cells #[.slice none 0 0, .slice none 0 0, .slice none 0 0] 66)) (w.heap.size + 1) 66 #[.slice none 0 0, .slice none 0 0, .slice none 0 0] := Box.new' (by simp)
  have hsL : w.heap.size + 2 = ((w.alloc (.cells #[.slice A0 n0 c0, .slice A1 n1 c1] 64)).alloc (.cells #[.slice none 0 0, .slice none 0 0, .slice none 0 0] 66)).heap.size := by simp
  have q0 := bxL.d0; have q1 := bxL.d1
  go_enter Try.func100, Try.ntmps100
  go_wp2_with fail
  generalize ((w.alloc (.cells #[.slice A0 n0 c0, .slice A1 n1 c1] 64)).alloc (.cells #[.slice none 0 0, .slice none 0 0, .slice none 0 0] 66)) = W at *
  replace hsL : w.heap.size + 2 ≤ W.heap.size := by omega
  go_wp2_with (first
    | (go_at_call 132
       refine (copyArena _ _ z _ _ (Nat.le_refl _) (ha.keep (keeps_below hwL)) HF.out).mono ?_
       rintro e w1 ⟨t0, t1, rfl, ho1, hb1⟩
       obtain ⟨Av0, cv0, Av1, cv1, rfl, rfl⟩ := ho1.form
       have hs1 := hb1.size
       have bx1 := bxL.below hb1 (by omega)
       have br1 := brL.below hb1 (by omega)
       have g0 := (bx1.alloc (.cells #[.slice Av0 z.1.length cv0, .slice Av1 z.2.length cv1, .slice none 0 0] 66)).d0
       have g1 := (bx1.alloc (.cells #[.slice Av0 z.1.length cv0, .slice Av1 z.2.length cv1, .slice none 0 0] 66)).d1
       have hw1 : Below w.heap.size w w1 := hwL.trans (hb1.mono (by omega)))
    | (go_at_call 133
       refine (markOf _ _ _ _ _ _ _ _ _ s _ _ (Nat.le_refl _) (hs.keep (keeps_below (below_alloc (by omega) hw1))) hset hn0).mono ?_
       rintro e w2 ⟨vm, rfl, ho2, hb2⟩
       obtain ⟨Am, cm, rfl⟩ := ho2.form
       rw [mkM_len] at *
       have hs2 := hb2.size))
  have bm1 := Box.below (Box.new w1 66 #[.slice Av0 z.1.length cv0, .slice Av1 z.2.length cv1, .slice none 0 0]) hb2 (by simp)
  have hsm : w1.heap.size + 1 ≤ w2.heap.size := by simpa using hs2
  have hw2 : Below w1.heap.size w1 w2 := (below_alloc (Nat.le_refl _) (Below.refl _ _)).trans (hb2.mono (by simp))
  replace ho2 := ho2.more (lo' := w1.heap.size + 1) (by simp)
  go_loopw [19] (fun i wr => ∃ (k : Nat) (v2 : Value) (P : List Int), k ≤ n0 ∧ i = .int .i64 k ∧ P = prioUp s a b k ∧ OI 2 wr w2.heap.size v2 P ∧ Box wr w1.heap.size 66 #[.slice Av0 z.1.length cv0, .slice Av1 z.2.length cv1, v2] ∧ Chg (fun b => b = w1.heap.size) w2 wr) (fun i _ => n0 - (intOf i).toNat)
  case atStart => exact ⟨0, _, [], Nat.zero_le _, rfl, rfl, OI.nil _ _ _, bm1, Chg.refl _ _⟩
  case round =>
    obtain ⟨k, v2, P, hk, rfl, hPk, hoP, bR, hch⟩ := hrel
    have HPk := Lib.hid hPk
    have hlen : P.length ≤ 4194304 := by rw [hPk, prioUp_len]; omega
    clear hPk
    obtain ⟨Ap, cp, rfl⟩ := hoP.form
    have hsr := hch.size
    by_cases hlt : k < n0
    · obtain ⟨bm, om, rfl, hcm⟩ := (ho2.chg1 hch (fun b hb => by omega)).reads.at_ hlt
      rw [mkM_at hlt] at hcm
      obtain ⟨p0, p1, p2⟩ := bR.e2
      have hki : (k : Int) < (n0 : Int) := by omega
      cases hv : hasL s (k : Int)
      · rw [hv] at hcm
        have hX := Lib.hid (prioUp_no (a := a) (b := b) hv)
        have hba : Below wr.heap.size wr (wr.alloc (.cells #[.int .i64 b] 2)) := below_alloc (Nat.le_refl _) (Below.refl _ _)
        have hp1 := hoP.below hba
        have hq1 : RI (wr.alloc (.cells #[.int .i64 b] 2)) (some ⟨wr.heap.size, 0, none⟩) 1 1 [b] := RI.one1 ((Box.new wr 2 #[.int .i64 b]).cell 0)
        have bA := bR.alloc (.cells #[.int .i64 b] 2)
        go_wp2_with (refine wpList_appI rfl (.tmp 31) (.tmp 33) rfl _ w2.heap.size (.slice Ap P.length cp) P rfl hp1 (some ⟨wr.heap.size, 0, none⟩) 1 1 [b] rfl hq1 hlen (by omega) (by simp; omega) ?_; intro v3 w3 ho3 hb3 hc3 hat3; obtain ⟨Ap3, cp3, rfl⟩ := ho3.form; have bR3 := bA.below hb3 (by omega); have T2 := bR3.e2.2.2; have F2 := bR3.hot 2)
        rw [List.length_append, List.length_singleton] at ho3
        have ch := Chg.set (w := w3) ⟨w1.heap.size, 2, none⟩ (.slice Ap3 (P.length + 1) cp3)
        have bF : Box (w3.setCell ⟨w1.heap.size, 2, none⟩ (.slice Ap3 (P.length + 1) cp3)) w1.heap.size 66 #[.slice Av0 z.1.length cv0, .slice Av1 z.2.length cv1, .slice Ap3 (P.length + 1) cp3] := bR3.set_ 2 (.slice Ap3 (P.length + 1) cp3)
        have fin := ho3.chg ch (fun b hb hs => by have := (ho3.lt b hb).1; have : b = w1.heap.size := hs; omega)
        have hbx : Below w2.heap.size wr w3 := (hba.mono hsr).trans hb3
        have hcF := (hch.then_below hbx (Nat.le_refl _)).trans ch (U := fun b => b = w1.heap.size) (fun _ h => h) (fun _ h => h)
        go_roundw
        case rel => exact ⟨k + 1, _, _, by omega, by go_num, by rw [hX.out, ← HPk.out], fin, bF, hcF⟩
        case measure => simp [intOf]; omega
      · rw [hv] at hcm
        have hX := Lib.hid (prioUp_yes (a := a) (b := b) hv)
        have hba : Below wr.heap.size wr (wr.alloc (.cells #[.int .i64 a] 2)) := below_alloc (Nat.le_refl _) (Below.refl _ _)
        have hp1 := hoP.below hba
        have hq1 : RI (wr.alloc (.cells #[.int .i64 a] 2)) (some ⟨wr.heap.size, 0, none⟩) 1 1 [a] := RI.one1 ((Box.new wr 2 #[.int .i64 a]).cell 0)
        have bA := bR.alloc (.cells #[.int .i64 a] 2)
        go_wp2_with (refine wpList_appI rfl (.tmp 25) (.tmp 27) rfl _ w2.heap.size (.slice Ap P.length cp) P rfl hp1 (some ⟨wr.heap.size, 0, none⟩) 1 1 [a] rfl hq1 hlen (by omega) (by simp; omega) ?_; intro v3 w3 ho3 hb3 hc3 hat3; obtain ⟨Ap3, cp3, rfl⟩ := ho3.form; have bR3 := bA.below hb3 (by omega); have T2 := bR3.e2.2.2; have F2 := bR3.hot 2)
        rw [List.length_append, List.length_singleton] at ho3
        have ch := Chg.set (w := w3) ⟨w1.heap.size, 2, none⟩ (.slice Ap3 (P.length + 1) cp3)
        have bF : Box (w3.setCell ⟨w1.heap.size, 2, none⟩ (.slice Ap3 (P.length + 1) cp3)) w1.heap.size 66 #[.slice Av0 z.1.length cv0, .slice Av1 z.2.length cv1, .slice Ap3 (P.length + 1) cp3] := bR3.set_ 2 (.slice Ap3 (P.length + 1) cp3)
        have fin := ho3.chg ch (fun b hb hs => by have := (ho3.lt b hb).1; have : b = w1.heap.size := hs; omega)
        have hbx : Below w2.heap.size wr w3 := (hba.mono hsr).trans hb3
        have hcF := (hch.then_below hbx (Nat.le_refl _)).trans ch (U := fun b => b = w1.heap.size) (fun _ h => h) (fun _ h => h)
        go_roundw
        case rel => exact ⟨k + 1, _, _, by omega, by go_num, by rw [hX.out, ← HPk.out], fin, bF, hcF⟩
        case measure => simp [intOf]; omega
    · obtain rfl : k = n0 := by omega
      obtain ⟨p0, p1, p2⟩ := bR.e2
      have hbR : Below w1.heap.size w2 wr := hch.below (by omega) (fun b hb => by omega)
      have brX := br1.below (hw2.trans hbR) (by omega)
      obtain ⟨e0, e1, e2⟩ := brX.e2
      have f0 := brX.hot 0
      have f1 := brX.hot 1
      have f2 := brX.hot 2
      have ch := Chg.set3 wr (w.heap.size + 1) (.slice Av0 z.1.length cv0) (.slice Av1 z.2.length cv1) (.slice Ap P.length cp)
      have bF := brX.set3 (.slice Av0 z.1.length cv0) (.slice Av1 z.2.length cv1) (.slice Ap P.length cp)
      obtain ⟨R0, R1, R2⟩ := bF.e2
      have hoE : OI 2 wr w2.heap.size (.slice Ap P.length cp) (prioUp s a b z.1.length) := by rw [HL.out, ← HPk.out]; exact hoP
      have fo := OPar.join ho1 (hw2.trans hbR) hoE (by omega) (by omega)
      have fin := fo.chg ch (fun b hb => by omega)
      have hwF := ((hw1.trans (hw2.mono (by omega))).trans (hbR.mono (by omega))).trans (ch.below (by omega) (fun b hb => by omega))
      go_wp2
      exact bodyPost_ret (v := .agg #[.slice Av0 z.1.length cv0, .slice Av1 z.2.length cv1, .slice Ap P.length cp]) (by simp [results, Try.results100, go_sem, R0, R1, R2]) rfl ⟨_, _, _, rfl, fin.more (by omega), hwF.mono hB⟩

noncomputable def oftenG (z : ArD) (s : List Int) (a b : Int) : ParD := if okA z.1 z.2 0 s = true then markedG z s a b else ([], [], [])
set_option maxRecDepth 100000 in
set_option maxHeartbeats 1600000 in
theorem l15Game (s0 s1 : Value) (C : Option Addr) (m d : Nat) (z : ArD) (s : List Int) (a b : Int) (w : World) (B : Nat) (hB : B ≤ w.heap.size) (ha : RAv w s0 s1 z.1 z.2) (hs : RI w C m d s) :
    Calls Try.prog 97 #[.agg #[s0, s1], .slice C m d, .int .i64 a, .int .i64 b] w fun e w' => ∃ t0 t1 t2, e = .returned (.agg #[t0, t1, t2]) ∧ OPar w' B t0 t1 t2 (oftenG z s a b) ∧ Below B w w' := by
  obtain ⟨A0, n0, c0, A1, n1, c1, rfl, rfl⟩ := ha.form
  have hr := ha.ri
  have b1 := hr.cap; have b2 := hr.top
  have HL := Lib.hid hr.len
  have hwL : Below w.heap.size w ((w.alloc (.cells #[.slice A0 n0 c0, .slice A1 n1 c1] 64)).alloc (.cells #[.slice none 0 0, .slice none 0 0, .slice none 0 0] 66)) := below_alloc (Nat.le_refl _) (below_alloc (Nat.le_refl _) (Below.refl _ _))
  have bxL := (Box.new w 64 #[.slice A0 n0 c0, .slice A1 n1 c1]).alloc (.cells #[.slice none 0 0, .slice none 0 0, .slice none 0 0] 66)
  have brL : Box ((w.alloc (.cells #[.slice A0 n0 c0, .slice A1 n1 c1] 64)).alloc (.cells #[.slice none 0 0, .slice none 0 0, .slice none 0 0] 66)) (w.heap.size + 1) 66 #[.slice none 0 0, .slice none 0 0, .slice none 0 0] := Box.new' (by simp)
  have hsL : w.heap.size + 2 = ((w.alloc (.cells #[.slice A0 n0 c0, .slice A1 n1 c1] 64)).alloc (.cells #[.slice none 0 0, .slice none 0 0, .slice none 0 0] 66)).heap.size := by simp
  have q0 := bxL.d0; have q1 := bxL.d1
  cases hok : okA z.1 z.2 0 s with
  | false =>
    go_enter Try.func97, Try.ntmps97
    go_wp2_with fail
    generalize ((w.alloc (.cells #[.slice A0 n0 c0, .slice A1 n1 c1] 64)).alloc (.cells #[.slice none 0 0, .slice none 0 0, .slice none 0 0] 66)) = W at *
    replace hsL : w.heap.size + 2 ≤ W.heap.size := by omega
    go_wp2_with (go_at_call 107; refine (l15Right _ _ _ _ _ _ _ _ _ _ _ _ s _ _ (Nat.le_refl _) (ha.ri.keep (keeps_below hwL)) (ha.rii.keep (keeps_below hwL)) (hs.keep (keeps_below hwL))).mono ?_; rintro e w1 ⟨rfl, hb1⟩; rw [hok]; have hs1 := hb1.size; have br1 := brL.below hb1 (by omega); obtain ⟨e0, e1, e2⟩ := br1.e2; have f0 := br1.hot 0; have f1 := br1.hot 1; have f2 := br1.hot 2)
    have ch := Chg.set3 w1 (w.heap.size + 1) (.slice none 0 0) (.slice none 0 0) (.slice none 0 0)
    have bF := br1.set3 (.slice none 0 0) (.slice none 0 0) (.slice none 0 0)
    obtain ⟨R0, R1, R2⟩ := bF.e2
    have hwF := (hwL.trans (hb1.mono (by omega))).trans (ch.below (B := w.heap.size) (by omega) (fun b hb => by omega))
    have HO := Lib.hid (show oftenG z s a b = ([], [], []) by unfold oftenG; rw [if_neg (by rw [hok]; decide)])
    exact bodyPost_ret (v := .agg #[.slice none 0 0, .slice none 0 0, .slice none 0 0]) (by simp [results, Try.results97, go_sem, R0, R1, R2]) rfl ⟨_, _, _, rfl, by rw [HO.out]; exact OPar.nil _ _, hwF.mono hB⟩
  | true =>
    have HF := Lib.hid (fineAr_of (okA_parts hok).1)
    have hn0 : n0 ≤ 1048576 := by have := HF.out.2.1; rw [HL.out] at this; omega
    go_enter Try.func97, Try.ntmps97
    go_wp2_with fail
    generalize ((w.alloc (.cells #[.slice A0 n0 c0, .slice A1 n1 c1] 64)).alloc (.cells #[.slice none 0 0, .slice none 0 0, .slice none 0 0] 66)) = W at *
    replace hsL : w.heap.size + 2 ≤ W.heap.size := by omega
    go_wp2_with (first
      | (go_at_call 107
         refine (l15Right _ _ _ _ _ _ _ _ _ _ _ _ s _ _ (Nat.le_refl _) (ha.ri.keep (keeps_below hwL)) (ha.rii.keep (keeps_below hwL)) (hs.keep (keeps_below hwL))).mono ?_
         rintro e wa ⟨rfl, hba⟩
         rw [hok]
         have hsa := hba.size
         have bxa := bxL.below hba (by omega)
         have bra := brL.below hba (by omega)
         have g0 := bxa.d0
         have g1 := bxa.d1
         have hwa : Below w.heap.size w wa := hwL.trans (hba.mono (by omega)))
      | (go_at_call 129
         refine (l1CopyArena _ _ z _ _ (Nat.le_refl _) (ha.keep (keeps_below hwa)) HF.out).mono ?_
         rintro e w1 ⟨t0, t1, rfl, ho1, hb1⟩
         obtain ⟨Av0, cv0, Av1, cv1, rfl, rfl⟩ := ho1.form
         have hs1 := hb1.size
         have bx1 := bxa.below hb1 (by omega)
         have br1 := bra.below hb1 (by omega)
         have hw1 : Below w.heap.size w w1 := hwa.trans (hb1.mono (by omega))))
    obtain ⟨w2, hw2e⟩ : ∃ w2, w2 = w1.alloc (.cells #[.slice Av0 z.1.length cv0, .slice Av1 z.2.length cv1, .slice none 0 0] 66) := ⟨_, rfl⟩
    have bm1 : Box w2 w1.heap.size 66 #[.slice Av0 z.1.length cv0, .slice Av1 z.2.length cv1, .slice none 0 0] := by rw [hw2e]; exact Box.new _ _ _
    have hs2 : w2.heap.size = w1.heap.size + 1 := by rw [hw2e]; simp
    have hw2 : Below w1.heap.size w1 w2 := by rw [hw2e]; exact below_alloc (Nat.le_refl _) (Below.refl _ _)
    rw [← hw2e]
    clear hw2e
    go_loopw [10] (fun i wr => ∃ (k : Nat) (v2 : Value) (P : List Int), k ≤ n0 ∧ i = .int .i64 k ∧ P = prioUp s a b k ∧ OI 2 wr w2.heap.size v2 P ∧ Box wr w1.heap.size 66 #[.slice Av0 z.1.length cv0, .slice Av1 z.2.length cv1, v2] ∧ Chg (fun b => b = w1.heap.size) w2 wr) (fun i _ => n0 - (intOf i).toNat)
    case atStart => exact ⟨0, _, [], Nat.zero_le _, rfl, rfl, OI.nil _ _ _, bm1, Chg.refl _ _⟩
    case round =>
      obtain ⟨k, v2, P, hk, rfl, hPk, hoP, bR, hch⟩ := hrel
      have HPk := Lib.hid hPk
      have hlen : P.length ≤ 4194304 := by rw [hPk, prioUp_len]; omega
      clear hPk
      obtain ⟨Ap, cp, rfl⟩ := hoP.form
      have hsr := hch.size
      have hbR : Below w1.heap.size w2 wr := hch.below (by omega) (fun b hb => by omega)
      have hwr : Below w.heap.size w wr := (hw1.trans (hw2.mono (by omega))).trans (hbR.mono (by omega))
      have bX := bx1.below (hw2.trans hbR) (by omega)
      have g0 := bX.d0
      have g1 := bX.d1
      by_cases hlt : k < n0
      · obtain ⟨p0, p1, p2⟩ := bR.e2
        have hki : (k : Int) < (n0 : Int) := by omega
        cases hv : hasL s (k : Int)
        · have hX := Lib.hid (prioUp_no (a := a) (b := b) hv)
          go_wp2_with (first
            | (go_at_call 104
               refine (l16Has _ _ _ s _ _ (hs.keep (keeps_below hwr))).mono ?_
               rintro e wd ⟨rfl, hq⟩
               rw [hv]
               have hbd : Below wr.heap.size wr wd := by obtain ⟨q, rfl⟩ := hq; exact below_drewN (Below.refl _ _) _
               have hsd := hbd.size
               have hba : Below wd.heap.size wd (wd.alloc (.cells #[.int .i64 b] 2)) := below_alloc (Nat.le_refl _) (Below.refl _ _)
               have hp1 := (hoP.below hbd).below hba
               have hq1 : RI (wd.alloc (.cells #[.int .i64 b] 2)) (some ⟨wd.heap.size, 0, none⟩) 1 1 [b] := RI.one1 ((Box.new wd 2 #[.int .i64 b]).cell 0)
               have bD := bR.below hbd (by omega)
               obtain ⟨d0, d1, d2⟩ := bD.e2
               have bA := bD.alloc (.cells #[.int .i64 b] 2))
            | (refine wpList_appI rfl (.tmp 36) (.tmp 38) rfl _ w2.heap.size (.slice Ap P.length cp) P rfl hp1 (some ⟨wd.heap.size, 0, none⟩) 1 1 [b] rfl hq1 hlen (by omega) (by simp; omega) ?_; intro v3 w3 ho3 hb3 hc3 hat3; obtain ⟨Ap3, cp3, rfl⟩ := ho3.form; have bR3 := bA.below hb3 (by omega); have T2 := bR3.e2.2.2; have F2 := bR3.hot 2))
          rw [List.length_append, List.length_singleton] at ho3
          have ch := Chg.set (w := w3) ⟨w1.heap.size, 2, none⟩ (.slice Ap3 (P.length + 1) cp3)
          have bF : Box (w3.setCell ⟨w1.heap.size, 2, none⟩ (.slice Ap3 (P.length + 1) cp3)) w1.heap.size 66 #[.slice Av0 z.1.length cv0, .slice Av1 z.2.length cv1, .slice Ap3 (P.length + 1) cp3] := bR3.set_ 2 (.slice Ap3 (P.length + 1) cp3)
          have fin := ho3.chg ch (fun b hb hs => by have := (ho3.lt b hb).1; have : b = w1.heap.size := hs; omega)
          have hbx : Below w2.heap.size wr w3 := ((hbd.mono hsr).trans (hba.mono (by omega))).trans hb3
          have hcF := (hch.then_below hbx (Nat.le_refl _)).trans ch (U := fun b => b = w1.heap.size) (fun _ h => h) (fun _ h => h)
          go_roundw
          case rel => exact ⟨k + 1, _, _, by omega, by go_num, by rw [hX.out, ← HPk.out], fin, bF, hcF⟩
          case measure => simp [intOf]; omega
        · have hX := Lib.hid (prioUp_yes (a := a) (b := b) hv)
          go_wp2_with (first
            | (go_at_call 104
               refine (l16Has _ _ _ s _ _ (hs.keep (keeps_below hwr))).mono ?_
               rintro e wd ⟨rfl, hq⟩
               rw [hv]
               have hbd : Below wr.heap.size wr wd := by obtain ⟨q, rfl⟩ := hq; exact below_drewN (Below.refl _ _) _
               have hsd := hbd.size
               have hba : Below wd.heap.size wd (wd.alloc (.cells #[.int .i64 a] 2)) := below_alloc (Nat.le_refl _) (Below.refl _ _)
               have hp1 := (hoP.below hbd).below hba
               have hq1 : RI (wd.alloc (.cells #[.int .i64 a] 2)) (some ⟨wd.heap.size, 0, none⟩) 1 1 [a] := RI.one1 ((Box.new wd 2 #[.int .i64 a]).cell 0)
               have bD := bR.below hbd (by omega)
               obtain ⟨d0, d1, d2⟩ := bD.e2
               have bA := bD.alloc (.cells #[.int .i64 a] 2))
            | (refine wpList_appI rfl (.tmp 30) (.tmp 32) rfl _ w2.heap.size (.slice Ap P.length cp) P rfl hp1 (some ⟨wd.heap.size, 0, none⟩) 1 1 [a] rfl hq1 hlen (by omega) (by simp; omega) ?_; intro v3 w3 ho3 hb3 hc3 hat3; obtain ⟨Ap3, cp3, rfl⟩ := ho3.form; have bR3 := bA.below hb3 (by omega); have T2 := bR3.e2.2.2; have F2 := bR3.hot 2))
          rw [List.length_append, List.length_singleton] at ho3
          have ch := Chg.set (w := w3) ⟨w1.heap.size, 2, none⟩ (.slice Ap3 (P.length + 1) cp3)
          have bF : Box (w3.setCell ⟨w1.heap.size, 2, none⟩ (.slice Ap3 (P.length + 1) cp3)) w1.heap.size 66 #[.slice Av0 z.1.length cv0, .slice Av1 z.2.length cv1, .slice Ap3 (P.length + 1) cp3] := bR3.set_ 2 (.slice Ap3 (P.length + 1) cp3)
          have fin := ho3.chg ch (fun b hb hs => by have := (ho3.lt b hb).1; have : b = w1.heap.size := hs; omega)
          have hbx : Below w2.heap.size wr w3 := ((hbd.mono hsr).trans (hba.mono (by omega))).trans hb3
          have hcF := (hch.then_below hbx (Nat.le_refl _)).trans ch (U := fun b => b = w1.heap.size) (fun _ h => h) (fun _ h => h)
          go_roundw
          case rel => exact ⟨k + 1, _, _, by omega, by go_num, by rw [hX.out, ← HPk.out], fin, bF, hcF⟩
          case measure => simp [intOf]; omega
      · obtain rfl : k = n0 := by omega
        obtain ⟨p0, p1, p2⟩ := bR.e2
        have brX := br1.below (hw2.trans hbR) (by omega)
        obtain ⟨e0, e1, e2⟩ := brX.e2
        have f0 := brX.hot 0
        have f1 := brX.hot 1
        have f2 := brX.hot 2
        have ch := Chg.set3 wr (w.heap.size + 1) (.slice Av0 z.1.length cv0) (.slice Av1 z.2.length cv1) (.slice Ap P.length cp)
        have bF := brX.set3 (.slice Av0 z.1.length cv0) (.slice Av1 z.2.length cv1) (.slice Ap P.length cp)
        obtain ⟨R0, R1, R2⟩ := bF.e2
        have hoE : OI 2 wr w2.heap.size (.slice Ap P.length cp) (prioUp s a b z.1.length) := by rw [HL.out, ← HPk.out]; exact hoP
        have fo := OPar.join ho1 (hw2.trans hbR) hoE (by omega) (by omega)
        have fin := fo.chg ch (fun b hb => by omega)
        have hwF := hwr.trans (ch.below (by omega) (fun b hb => by omega))
        have HO := Lib.hid (show oftenG z s a b = (z.1, z.2, prioUp s a b z.1.length) by unfold oftenG; rw [if_pos hok]; rfl)
        go_wp2
        exact bodyPost_ret (v := .agg #[.slice Av0 z.1.length cv0, .slice Av1 z.2.length cv1, .slice Ap P.length cp]) (by simp [results, Try.results97, go_sem, R0, R1, R2]) rfl ⟨_, _, _, rfl, by rw [HO.out]; exact fin.more (by omega), hwF.mono hB⟩
end Go.Proofs.Ytiojggephmacpaa
