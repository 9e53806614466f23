/- JoinedGame: what it is; spec. -/
import Derived.Test.YtfjhkjikfjpnpaaCopyP
import Derived.Test.YtfjhkjikfjpnpaaGame2
import Derived.Test.YtfjhkjikfjpnpaaMore
import Derived.Test.YtfjhkjikfjpnpaaPlan
import Derived.Test.YtfjhkjikfjpnpaaAttr
import Derived.Test.YtfjhkjikfjpnpaaHand
import Derived.Test.YtfjhkjikfjpnpaaApp2
import Derived.Deep.RegionHeld3
import Derived.StillTailTactics
namespace Go.Proofs.Ytfjhkjikfjpnpaa
open Go.RowKit

theorem twoH_0_18 {P : Program} {Q : Exit → Act → World → Prop} {md : Region.Mode} {S : World → Prop} {fuel : Nat} {listed : Array Bool} {a : Act} {w : World} {o0 o1 o2 o3 o4 o5 o6 o7 o8 o9 o10 o11 o12 o13 o14 o15 o16 o17 o18 : Oper} {r : List Oper} (hr : Region.ready md (List.toArray (o0 :: o1 :: o2 :: o3 :: o4 :: o5 :: o6 :: o7 :: o8 :: o9 :: o10 :: o11 :: o12 :: o13 :: o14 :: o15 :: o16 :: o17 :: o18 :: r)) listed = [0, 18])
    (h1 : ∀ K' : Act → World → Prop, Shut (∀ a w, S w → (S w → wpAnyH P md (List.toArray (o0 :: o1 :: o2 :: o3 :: o4 :: o5 :: o6 :: o7 :: o8 :: o9 :: o10 :: o11 :: o12 :: o13 :: o14 :: o15 :: o16 :: o17 :: o18 :: r)) Q S fuel (listed.setIfInBounds 0 true) a w) → K' a w) → if Region.wanted o0 (yielded (List.toArray (o0 :: o1 :: o2 :: o3 :: o4 :: o5 :: o6 :: o7 :: o8 :: o9 :: o10 :: o11 :: o12 :: o13 :: o14 :: o15 :: o16 :: o17 :: o18 :: r)) a.tmps) = true then Oper.wp P o0 a w K' Q else K' (a.put o0.dst undef) w) (h2 : ∀ K' : Act → World → Prop, Shut (∀ a w, S w → (S w → wpAnyH P md (List.toArray (o0 :: o1 :: o2 :: o3 :: o4 :: o5 :: o6 :: o7 :: o8 :: o9 :: o10 :: o11 :: o12 :: o13 :: o14 :: o15 :: o16 :: o17 :: o18 :: r)) Q S fuel (listed.setIfInBounds 18 true) a w) → K' a w) → if Region.wanted o18 (yielded (List.toArray (o0 :: o1 :: o2 :: o3 :: o4 :: o5 :: o6 :: o7 :: o8 :: o9 :: o10 :: o11 :: o12 :: o13 :: o14 :: o15 :: o16 :: o17 :: o18 :: r)) a.tmps) = true then Oper.wp P o18 a w K' Q else K' (a.put o18.dst undef) w) : wpAnyH P md (List.toArray (o0 :: o1 :: o2 :: o3 :: o4 :: o5 :: o6 :: o7 :: o8 :: o9 :: o10 :: o11 :: o12 :: o13 :: o14 :: o15 :: o16 :: o17 :: o18 :: r)) Q S (fuel + 1) listed a w :=
  wpAnyH_ready (rs := [0, 18]) hr (by simp) (AllReadyH.cons rfl h1 (AllReadyH.cons rfl h2 AllReadyH.nil))
def shift (d : Nat) (xs : List Int) : List Int := xs.map (· + (d : Int))
theorem shift_len (d : Nat) (xs : List Int) : (shift d xs).length = xs.length := by unfold shift; rw [List.length_map]
theorem shift_take {d : Nat} {xs : List Int} {k : Nat} (h : k < xs.length) : shift d (xs.take (k + 1)) = shift d (xs.take k) ++ [gi xs k + (d : Int)] := by
  unfold shift
  rw [take_gi h, List.map_append]
  rfl
def firstUp (g : ParD) (k : Nat) : ParD := (g.1.take k, g.2.1.take k, g.2.2.take k)
theorem firstUp_succ {g : ParD} {k : Nat} (h0 : k < g.1.length) (h1 : k < g.2.1.length) (h2 : k < g.2.2.length) : firstUp g (k + 1) = addV (firstUp g k) (gi g.1 k) (gi g.2.2 k) (gl g.2.1 k) := by
  unfold firstUp addV
  rw [take_gi h0, take_gl h1, take_gi h2]
theorem firstUp_small {g : ParD} {k : Nat} (h : k ≤ 256) : small (firstUp g k) := by
  unfold firstUp small
  refine ⟨?_, ?_, ?_⟩ <;> simp <;> omega
def joinUp (g h : ParD) (k : Nat) : ParD := (g.1 ++ h.1.take k, g.2.1 ++ (h.2.1.take k).map (shift g.2.2.length), g.2.2 ++ h.2.2.take k)
theorem joinUp_zero (g h : ParD) : joinUp g h 0 = g := by
  unfold joinUp
  simp
theorem joinUp_succ {g h : ParD} {k : Nat} (h0 : k < h.1.length) (h1 : k < h.2.1.length) (h2 : k < h.2.2.length) : joinUp g h (k + 1) = addV (joinUp g h k) (gi h.1 k) (gi h.2.2 k) (shift g.2.2.length (gl h.2.1 k)) := by
  unfold joinUp addV
  rw [take_gi h0, take_gl h1, take_gi h2]
  simp
noncomputable def okJoin (g h : ParD) : Bool := parB g && (parB h && decide (g.2.2.length + h.2.2.length ≤ 256))
noncomputable def joinG (g h : ParD) : ParD := if okJoin g h = true then joinUp g h h.2.2.length else ([], [], [])
theorem join_par {g h : ParD} (e : parB g = false) : okJoin g h = false := by unfold okJoin; rw [e]; rfl
theorem join_par2 {g h : ParD} (e : parB h = false) : okJoin g h = false := by unfold okJoin; rw [e, Bool.false_and, Bool.and_false]
theorem join_len {g h : ParD} (e : ¬ g.2.2.length + h.2.2.length ≤ 256) : okJoin g h = false := by unfold okJoin; rw [decide_eq_false e, Bool.and_false, Bool.and_false]
theorem join_yes {g h : ParD} (e : parB g = true) (e2 : parB h = true) (e3 : g.2.2.length + h.2.2.length ≤ 256) : okJoin g h = true := by unfold okJoin; rw [e, e2, decide_eq_true e3]; rfl
theorem joinG_no {g h : ParD} (e : okJoin g h = false) : joinG g h = ([], [], []) := by unfold joinG; rw [e]; rfl
theorem joinG_yes {g h : ParD} (e : okJoin g h = true) : joinG g h = joinUp g h h.2.2.length := if_pos e
theorem tot_append (xs ys : List (List Int)) : tot (xs ++ ys) = tot xs + tot ys := by unfold tot; rw [List.map_append, List.sum_append]
theorem tot_shift (d : Nat) (xs : List (List Int)) : tot (xs.map (shift d)) = tot xs := by
  unfold tot
  rw [List.map_map]
  congr 1
  apply List.map_congr_left
  intro x _
  exact shift_len d x
theorem joinUp_full {g h : ParD} (hf : finePar h) : joinUp g h h.2.2.length = (g.1 ++ h.1, g.2.1 ++ h.2.1.map (shift g.2.2.length), g.2.2 ++ h.2.2) := by
  have h1 := hf.1.2.2.1; have h2 := hf.2.1
  unfold joinUp
  rw [List.take_of_length_le (by omega), List.take_of_length_le (by omega), List.take_of_length_le (Nat.le_refl _)]
theorem join_tot (g h : ParD) : (ptot (joinG g h) : Int) ≤ 1048576 := by
  cases e : okJoin g h with
  | false => rw [joinG_no e]; simp [ptot, artot, tot]
  | true =>
    have e' := e
    unfold okJoin at e'
    rw [Bool.and_eq_true, Bool.and_eq_true] at e'
    have f1 := finePar_of e'.1; have f2 := finePar_of e'.2.1
    have t1 := fine_ptot f1; have t2 := fine_ptot f2
    rw [joinG_yes e, joinUp_full f2]
    unfold ptot artot at *
    simp only [List.length_append, tot_append, tot_shift]
    omega
theorem joinUp_small {g h : ParD} {k : Nat} (hg : finePar g) (hk : k ≤ 256) : small (joinUp g h k) := by
  have h0 := hg.1.2.1; have h1 := hg.1.2.2.1; have h2 := hg.2.1
  unfold joinUp small
  refine ⟨?_, ?_, ?_⟩ <;> simp <;> omega
theorem firstUp_full {g : ParD} (hf : finePar g) {k : Nat} (h : k = g.2.2.length) : firstUp g k = g := by
  have h1 := hf.1.2.2.1; have h2 := hf.2.1
  unfold firstUp
  rw [List.take_of_length_le (by omega), List.take_of_length_le (by omega), List.take_of_length_le (by omega)]

theorem GSx.start1 {w0 w : World} {br bg B : Nat} (hw : Below w0.heap.size w0 w) (hb : w0.heap.size ≤ br) (hz : Box w br 44 #[.slice none 0 0, .slice none 0 0, .slice none 0 0]) (e1 : bg = w.heap.size) (e2 : B = w.heap.size + 1) : GSx B w0 (w.alloc (.cells #[.slice none 0 0, .slice none 0 0, .slice none 0 0] 44)) br bg (.slice none 0 0) (.slice none 0 0) (.slice none 0 0) ([], [], []) := by
  subst e1; subst e2
  exact GSx.start hw hb hz

set_option maxRecDepth 100000 in
set_option maxHeartbeats 1600000 in
theorem specJoinedGame (s0 s1 s2 r0 r1 r2 : Value) (g h : ParD) (w : World) (B : Nat) (hB : B ≤ w.heap.size) (ha : RPv w s0 s1 s2 g) (hb : RPv w r0 r1 r2 h) :
    Calls Try.prog 26 #[.agg #[s0, s1, s2], .agg #[r0, r1, r2]] w fun e w' => ∃ t0 t1 t2, e = .returned (.tuple #[.agg #[t0, t1, t2], .bool (okJoin g h)]) ∧ OPar w' B t0 t1 t2 (joinG g h) ∧ Below B w w' := by
  have har := ha; have hbr := hb
  obtain ⟨A0, n0, c0, A1, n1, c1, A2, n2, c2, rfl, rfl, rfl⟩ := ha.form
  obtain ⟨C0, m0, d0, C1, m1, d1, C2, m2, d2, rfl, rfl, rfl⟩ := hb.form
  have hr := ha.ri; have hrr := ha.rii; have hrp := ha.rp
  have kr := hb.ri; have krr := hb.rii; have krp := hb.rp
  have b1 := hr.cap; have b2 := hr.top; have b3 := hrr.cap; have b4 := hrr.top; have b5 := hrp.cap; have b6 := hrp.top
  have e1 := kr.cap; have e2 := kr.top; have e3 := krr.cap; have e4 := krr.top; have e5 := krp.cap; have e6 := krp.top
  have HL := Lib.hid hr.len; have HM := Lib.hid hrr.len; have HP := Lib.hid hrp.len
  have KL := Lib.hid kr.len; have KM := Lib.hid krr.len; have KP := Lib.hid krp.len
  cases hp : parB g with
  | false =>
    have E := Lib.hid (join_par (h := h) hp)
    have E2 := Lib.hid (joinG_no E.out)
    have HPB := Lib.hid hp
    clear hp
    have hwL : Below w.heap.size w (((w.alloc (.cells #[.slice A0 n0 c0, .slice A1 n1 c1, .slice A2 n2 c2] 44)).alloc (.cells #[.slice C0 m0 d0, .slice C1 m1 d1, .slice C2 m2 d2] 44)).alloc (.cells #[.slice none 0 0, .slice none 0 0, .slice none 0 0] 44)) := below_alloc (Nat.le_refl _) (below_alloc (Nat.le_refl _) (below_alloc (Nat.le_refl _) (Below.refl _ _)))
    have bzL : Box (((w.alloc (.cells #[.slice A0 n0 c0, .slice A1 n1 c1, .slice A2 n2 c2] 44)).alloc (.cells #[.slice C0 m0 d0, .slice C1 m1 d1, .slice C2 m2 d2] 44)).alloc (.cells #[.slice none 0 0, .slice none 0 0, .slice none 0 0] 44)) (w.heap.size + 1 + 1) 44 #[.slice none 0 0, .slice none 0 0, .slice none 0 0] := Box.new' (by simp)
    have hG := GSx.start1 (B := w.heap.size + 4) (bg := w.heap.size + 1 + 1 + 1) hwL (by omega) bzL (by simp) (by simp)
    have bxL := ((((Box.new w 44 #[.slice A0 n0 c0, .slice A1 n1 c1, .slice A2 n2 c2]).alloc (.cells #[.slice C0 m0 d0, .slice C1 m1 d1, .slice C2 m2 d2] 44)).alloc (.cells #[.slice none 0 0, .slice none 0 0, .slice none 0 0] 44)).alloc (.cells #[.slice none 0 0, .slice none 0 0, .slice none 0 0] 44))
    have byL : Box ((((w.alloc (.cells #[.slice A0 n0 c0, .slice A1 n1 c1, .slice A2 n2 c2] 44)).alloc (.cells #[.slice C0 m0 d0, .slice C1 m1 d1, .slice C2 m2 d2] 44)).alloc (.cells #[.slice none 0 0, .slice none 0 0, .slice none 0 0] 44)).alloc (.cells #[.slice none 0 0, .slice none 0 0, .slice none 0 0] 44)) (w.heap.size + 1) 44 #[.slice C0 m0 d0, .slice C1 m1 d1, .slice C2 m2 d2] := (((Box.new' (w := (w.alloc (.cells #[.slice A0 n0 c0, .slice A1 n1 c1, .slice A2 n2 c2] 44))) (t := 44) (cs := #[.slice C0 m0 d0, .slice C1 m1 d1, .slice C2 m2 d2]) (by simp)).alloc (.cells #[.slice none 0 0, .slice none 0 0, .slice none 0 0] 44)).alloc (.cells #[.slice none 0 0, .slice none 0 0, .slice none 0 0] 44))
    clear hwL bzL
    go_enter Try.func26, Try.ntmps26
    have q0 : ((((w.alloc (.cells #[.slice A0 n0 c0, .slice A1 n1 c1, .slice A2 n2 c2] 44)).alloc (.cells #[.slice C0 m0 d0, .slice C1 m1 d1, .slice C2 m2 d2] 44)).alloc (.cells #[.slice none 0 0, .slice none 0 0, .slice none 0 0] 44)).alloc (.cells #[.slice none 0 0, .slice none 0 0, .slice none 0 0] 44)).cell? ⟨w.heap.size, 0, none⟩ = some (.slice A0 n0 c0) := bxL.cell 0
    have q1 : ((((w.alloc (.cells #[.slice A0 n0 c0, .slice A1 n1 c1, .slice A2 n2 c2] 44)).alloc (.cells #[.slice C0 m0 d0, .slice C1 m1 d1, .slice C2 m2 d2] 44)).alloc (.cells #[.slice none 0 0, .slice none 0 0, .slice none 0 0] 44)).alloc (.cells #[.slice none 0 0, .slice none 0 0, .slice none 0 0] 44)).cell? ⟨w.heap.size, 1, none⟩ = some (.slice A1 n1 c1) := bxL.cell 1
    have q2 : ((((w.alloc (.cells #[.slice A0 n0 c0, .slice A1 n1 c1, .slice A2 n2 c2] 44)).alloc (.cells #[.slice C0 m0 d0, .slice C1 m1 d1, .slice C2 m2 d2] 44)).alloc (.cells #[.slice none 0 0, .slice none 0 0, .slice none 0 0] 44)).alloc (.cells #[.slice none 0 0, .slice none 0 0, .slice none 0 0] 44)).cell? ⟨w.heap.size, 2, none⟩ = some (.slice A2 n2 c2) := bxL.cell 2
    have p0 : ((((w.alloc (.cells #[.slice A0 n0 c0, .slice A1 n1 c1, .slice A2 n2 c2] 44)).alloc (.cells #[.slice C0 m0 d0, .slice C1 m1 d1, .slice C2 m2 d2] 44)).alloc (.cells #[.slice none 0 0, .slice none 0 0, .slice none 0 0] 44)).alloc (.cells #[.slice none 0 0, .slice none 0 0, .slice none 0 0] 44)).cell? ⟨w.heap.size + 1, 0, none⟩ = some (.slice C0 m0 d0) := byL.cell 0
    have p1 : ((((w.alloc (.cells #[.slice A0 n0 c0, .slice A1 n1 c1, .slice A2 n2 c2] 44)).alloc (.cells #[.slice C0 m0 d0, .slice C1 m1 d1, .slice C2 m2 d2] 44)).alloc (.cells #[.slice none 0 0, .slice none 0 0, .slice none 0 0] 44)).alloc (.cells #[.slice none 0 0, .slice none 0 0, .slice none 0 0] 44)).cell? ⟨w.heap.size + 1, 1, none⟩ = some (.slice C1 m1 d1) := byL.cell 1
    have p2 : ((((w.alloc (.cells #[.slice A0 n0 c0, .slice A1 n1 c1, .slice A2 n2 c2] 44)).alloc (.cells #[.slice C0 m0 d0, .slice C1 m1 d1, .slice C2 m2 d2] 44)).alloc (.cells #[.slice none 0 0, .slice none 0 0, .slice none 0 0] 44)).alloc (.cells #[.slice none 0 0, .slice none 0 0, .slice none 0 0] 44)).cell? ⟨w.heap.size + 1, 2, none⟩ = some (.slice C2 m2 d2) := byL.cell 2
    go_wp2_with fail
    refine (specParityOk _ _ _ g _ _ (Nat.le_refl _) (har.keep (keeps_below hG.below))).mono ?_; rintro e w1 ⟨rfl, hb1⟩
    rw [HPB.out]
    replace hG := hG.move hb1; replace bxL := bxL.on hb1; replace byL := byL.on hb1
    clear q0 q1 q2 p0 p1 p2 hb1
    have g0 := hG.c0; have g1 := hG.c1; have g2 := hG.c2; have z0 := hG.z0; have z1 := hG.z1; have z2 := hG.z2; have f0 := hG.hotZ 0; have f1 := hG.hotZ 1; have f2 := hG.hotZ 2
    obtain ⟨hwZ, bxZ⟩ := hG.fin0
    have R0 := bxZ.cell 0; have R1 := bxZ.cell 1; have R2 := bxZ.cell 2
    simp only [List.getElem?_toArray, List.getElem?_cons_zero, List.getElem?_cons_succ] at R0 R1 R2
    go_wp2
    exact bodyPost_ret (v := .tuple #[.agg #[.slice none 0 0, .slice none 0 0, .slice none 0 0], .bool false]) (by simp [results, Try.results26, go_sem, R0, R1, R2]) rfl ⟨_, _, _, by rw [E.out], by rw [E2.out]; exact OPar.nil _ _, hwZ.mono hB⟩
  | true =>
    have HPB := Lib.hid hp
    have hf := finePar_of hp
    have hn0 := hf.1.2.1; have hn1 := hf.1.2.2.1; have hn2 := hf.2.1
    rw [HL.out] at hn0 hn1 hn2
    rw [HM.out] at hn1
    rw [HP.out] at hn2
    have HF := Lib.hid hf
    have H10 := Lib.hid hn1; have H20 := Lib.hid hn2
    have hq1 : n1 ≤ 256 := by omega
    have hq2 : n2 ≤ 256 := by omega
    clear hf hn1 hn2
    clear hp
    cases hp2 : parB h with
    | false =>
      have E := Lib.hid (join_par2 (g := g) hp2)
      have E2 := Lib.hid (joinG_no E.out)
      have HPB2 := Lib.hid hp2
      clear hp2
      have hwL : Below w.heap.size w (((w.alloc (.cells #[.slice A0 n0 c0, .slice A1 n1 c1, .slice A2 n2 c2] 44)).alloc (.cells #[.slice C0 m0 d0, .slice C1 m1 d1, .slice C2 m2 d2] 44)).alloc (.cells #[.slice none 0 0, .slice none 0 0, .slice none 0 0] 44)) := below_alloc (Nat.le_refl _) (below_alloc (Nat.le_refl _) (below_alloc (Nat.le_refl _) (Below.refl _ _)))
      have bzL : Box (((w.alloc (.cells #[.slice A0 n0 c0, .slice A1 n1 c1, .slice A2 n2 c2] 44)).alloc (.cells #[.slice C0 m0 d0, .slice C1 m1 d1, .slice C2 m2 d2] 44)).alloc (.cells #[.slice none 0 0, .slice none 0 0, .slice none 0 0] 44)) (w.heap.size + 1 + 1) 44 #[.slice none 0 0, .slice none 0 0, .slice none 0 0] := Box.new' (by simp)
      have hG := GSx.start1 (B := w.heap.size + 4) (bg := w.heap.size + 1 + 1 + 1) hwL (by omega) bzL (by simp) (by simp)
      have bxL := ((((Box.new w 44 #[.slice A0 n0 c0, .slice A1 n1 c1, .slice A2 n2 c2]).alloc (.cells #[.slice C0 m0 d0, .slice C1 m1 d1, .slice C2 m2 d2] 44)).alloc (.cells #[.slice none 0 0, .slice none 0 0, .slice none 0 0] 44)).alloc (.cells #[.slice none 0 0, .slice none 0 0, .slice none 0 0] 44))
      have byL : Box ((((w.alloc (.cells #[.slice A0 n0 c0, .slice A1 n1 c1, .slice A2 n2 c2] 44)).alloc (.cells #[.slice C0 m0 d0, .slice C1 m1 d1, .slice C2 m2 d2] 44)).alloc (.cells #[.slice none 0 0, .slice none 0 0, .slice none 0 0] 44)).alloc (.cells #[.slice none 0 0, .slice none 0 0, .slice none 0 0] 44)) (w.heap.size + 1) 44 #[.slice C0 m0 d0, .slice C1 m1 d1, .slice C2 m2 d2] := (((Box.new' (w := (w.alloc (.cells #[.slice A0 n0 c0, .slice A1 n1 c1, .slice A2 n2 c2] 44))) (t := 44) (cs := #[.slice C0 m0 d0, .slice C1 m1 d1, .slice C2 m2 d2]) (by simp)).alloc (.cells #[.slice none 0 0, .slice none 0 0, .slice none 0 0] 44)).alloc (.cells #[.slice none 0 0, .slice none 0 0, .slice none 0 0] 44))
      clear hwL bzL
      go_enter Try.func26, Try.ntmps26
      have q0 : ((((w.alloc (.cells #[.slice A0 n0 c0, .slice A1 n1 c1, .slice A2 n2 c2] 44)).alloc (.cells #[.slice C0 m0 d0, .slice C1 m1 d1, .slice C2 m2 d2] 44)).alloc (.cells #[.slice none 0 0, .slice none 0 0, .slice none 0 0] 44)).alloc (.cells #[.slice none 0 0, .slice none 0 0, .slice none 0 0] 44)).cell? ⟨w.heap.size, 0, none⟩ = some (.slice A0 n0 c0) := bxL.cell 0
      have q1 : ((((w.alloc (.cells #[.slice A0 n0 c0, .slice A1 n1 c1, .slice A2 n2 c2] 44)).alloc (.cells #[.slice C0 m0 d0, .slice C1 m1 d1, .slice C2 m2 d2] 44)).alloc (.cells #[.slice none 0 0, .slice none 0 0, .slice none 0 0] 44)).alloc (.cells #[.slice none 0 0, .slice none 0 0, .slice none 0 0] 44)).cell? ⟨w.heap.size, 1, none⟩ = some (.slice A1 n1 c1) := bxL.cell 1
      have q2 : ((((w.alloc (.cells #[.slice A0 n0 c0, .slice A1 n1 c1, .slice A2 n2 c2] 44)).alloc (.cells #[.slice C0 m0 d0, .slice C1 m1 d1, .slice C2 m2 d2] 44)).alloc (.cells #[.slice none 0 0, .slice none 0 0, .slice none 0 0] 44)).alloc (.cells #[.slice none 0 0, .slice none 0 0, .slice none 0 0] 44)).cell? ⟨w.heap.size, 2, none⟩ = some (.slice A2 n2 c2) := bxL.cell 2
      have p0 : ((((w.alloc (.cells #[.slice A0 n0 c0, .slice A1 n1 c1, .slice A2 n2 c2] 44)).alloc (.cells #[.slice C0 m0 d0, .slice C1 m1 d1, .slice C2 m2 d2] 44)).alloc (.cells #[.slice none 0 0, .slice none 0 0, .slice none 0 0] 44)).alloc (.cells #[.slice none 0 0, .slice none 0 0, .slice none 0 0] 44)).cell? ⟨w.heap.size + 1, 0, none⟩ = some (.slice C0 m0 d0) := byL.cell 0
      have p1 : ((((w.alloc (.cells #[.slice A0 n0 c0, .slice A1 n1 c1, .slice A2 n2 c2] 44)).alloc (.cells #[.slice C0 m0 d0, .slice C1 m1 d1, .slice C2 m2 d2] 44)).alloc (.cells #[.slice none 0 0, .slice none 0 0, .slice none 0 0] 44)).alloc (.cells #[.slice none 0 0, .slice none 0 0, .slice none 0 0] 44)).cell? ⟨w.heap.size + 1, 1, none⟩ = some (.slice C1 m1 d1) := byL.cell 1
      have p2 : ((((w.alloc (.cells #[.slice A0 n0 c0, .slice A1 n1 c1, .slice A2 n2 c2] 44)).alloc (.cells #[.slice C0 m0 d0, .slice C1 m1 d1, .slice C2 m2 d2] 44)).alloc (.cells #[.slice none 0 0, .slice none 0 0, .slice none 0 0] 44)).alloc (.cells #[.slice none 0 0, .slice none 0 0, .slice none 0 0] 44)).cell? ⟨w.heap.size + 1, 2, none⟩ = some (.slice C2 m2 d2) := byL.cell 2
      go_wp2_with fail
      refine (specParityOk _ _ _ g _ _ (Nat.le_refl _) (har.keep (keeps_below hG.below))).mono ?_; rintro e w1 ⟨rfl, hb1⟩
      rw [HPB.out]
      replace hG := hG.move hb1; replace bxL := bxL.on hb1; replace byL := byL.on hb1
      clear q0 q1 q2 p0 p1 p2 hb1
      have q0 : w1.cell? ⟨w.heap.size, 0, none⟩ = some (.slice A0 n0 c0) := bxL.cell 0
      have q1 : w1.cell? ⟨w.heap.size, 1, none⟩ = some (.slice A1 n1 c1) := bxL.cell 1
      have q2 : w1.cell? ⟨w.heap.size, 2, none⟩ = some (.slice A2 n2 c2) := bxL.cell 2
      have p0 : w1.cell? ⟨w.heap.size + 1, 0, none⟩ = some (.slice C0 m0 d0) := byL.cell 0
      have p1 : w1.cell? ⟨w.heap.size + 1, 1, none⟩ = some (.slice C1 m1 d1) := byL.cell 1
      have p2 : w1.cell? ⟨w.heap.size + 1, 2, none⟩ = some (.slice C2 m2 d2) := byL.cell 2
      go_wp2_with fail
      refine (specParityOk _ _ _ h _ _ (Nat.le_refl _) (hbr.keep (keeps_below hG.below))).mono ?_; rintro e w2 ⟨rfl, hb2⟩
      rw [HPB2.out]
      replace hG := hG.move hb2; replace bxL := bxL.on hb2; replace byL := byL.on hb2
      clear q0 q1 q2 p0 p1 p2 hb2
      have q0 : w2.cell? ⟨w.heap.size, 0, none⟩ = some (.slice A0 n0 c0) := bxL.cell 0
      have q1 : w2.cell? ⟨w.heap.size, 1, none⟩ = some (.slice A1 n1 c1) := bxL.cell 1
      have q2 : w2.cell? ⟨w.heap.size, 2, none⟩ = some (.slice A2 n2 c2) := bxL.cell 2
      have p0 : w2.cell? ⟨w.heap.size + 1, 0, none⟩ = some (.slice C0 m0 d0) := byL.cell 0
      have p1 : w2.cell? ⟨w.heap.size + 1, 1, none⟩ = some (.slice C1 m1 d1) := byL.cell 1
      have p2 : w2.cell? ⟨w.heap.size + 1, 2, none⟩ = some (.slice C2 m2 d2) := byL.cell 2
      have g0 := hG.c0; have g1 := hG.c1; have g2 := hG.c2; have z0 := hG.z0; have z1 := hG.z1; have z2 := hG.z2; have f0 := hG.hotZ 0; have f1 := hG.hotZ 1; have f2 := hG.hotZ 2
      obtain ⟨hwZ, bxZ⟩ := hG.fin0
      have R0 := bxZ.cell 0; have R1 := bxZ.cell 1; have R2 := bxZ.cell 2
      simp only [List.getElem?_toArray, List.getElem?_cons_zero, List.getElem?_cons_succ] at R0 R1 R2
      go_wp2
      exact bodyPost_ret (v := .tuple #[.agg #[.slice none 0 0, .slice none 0 0, .slice none 0 0], .bool false]) (by simp [results, Try.results26, go_sem, R0, R1, R2]) rfl ⟨_, _, _, by rw [E.out], by rw [E2.out]; exact OPar.nil _ _, hwZ.mono hB⟩
    | true =>
      have HPB2 := Lib.hid hp2
      have hf := finePar_of hp2
      have hm0 := hf.1.2.1; have hm1 := hf.1.2.2.1; have hm2 := hf.2.1
      rw [KL.out] at hm0 hm1 hm2
      rw [KM.out] at hm1
      rw [KP.out] at hm2
      have KF := Lib.hid hf
      have K10 := Lib.hid hm1; have K20 := Lib.hid hm2
      have hs1 : m1 ≤ 256 := by omega
      have hs2 : m2 ≤ 256 := by omega
      clear hf hm1 hm2
      clear hp2
      by_cases hle : n2 + m2 ≤ 256
      · have HLE := Lib.hid hle
        have hgt : ¬ (256 : Int) < (n2 : Int) + (m2 : Int) := by omega
        have hwL : Below w.heap.size w (((w.alloc (.cells #[.slice A0 n0 c0, .slice A1 n1 c1, .slice A2 n2 c2] 44)).alloc (.cells #[.slice C0 m0 d0, .slice C1 m1 d1, .slice C2 m2 d2] 44)).alloc (.cells #[.slice none 0 0, .slice none 0 0, .slice none 0 0] 44)) := below_alloc (Nat.le_refl _) (below_alloc (Nat.le_refl _) (below_alloc (Nat.le_refl _) (Below.refl _ _)))
        have bzL : Box (((w.alloc (.cells #[.slice A0 n0 c0, .slice A1 n1 c1, .slice A2 n2 c2] 44)).alloc (.cells #[.slice C0 m0 d0, .slice C1 m1 d1, .slice C2 m2 d2] 44)).alloc (.cells #[.slice none 0 0, .slice none 0 0, .slice none 0 0] 44)) (w.heap.size + 1 + 1) 44 #[.slice none 0 0, .slice none 0 0, .slice none 0 0] := Box.new' (by simp)
        have hG := GSx.start1 (B := w.heap.size + 4) (bg := w.heap.size + 1 + 1 + 1) hwL (by omega) bzL (by simp) (by simp)
        have bxL := ((((Box.new w 44 #[.slice A0 n0 c0, .slice A1 n1 c1, .slice A2 n2 c2]).alloc (.cells #[.slice C0 m0 d0, .slice C1 m1 d1, .slice C2 m2 d2] 44)).alloc (.cells #[.slice none 0 0, .slice none 0 0, .slice none 0 0] 44)).alloc (.cells #[.slice none 0 0, .slice none 0 0, .slice none 0 0] 44))
        have byL : Box ((((w.alloc (.cells #[.slice A0 n0 c0, .slice A1 n1 c1, .slice A2 n2 c2] 44)).alloc (.cells #[.slice C0 m0 d0, .slice C1 m1 d1, .slice C2 m2 d2] 44)).alloc (.cells #[.slice none 0 0, .slice none 0 0, .slice none 0 0] 44)).alloc (.cells #[.slice none 0 0, .slice none 0 0, .slice none 0 0] 44)) (w.heap.size + 1) 44 #[.slice C0 m0 d0, .slice C1 m1 d1, .slice C2 m2 d2] := (((Box.new' (w := (w.alloc (.cells #[.slice A0 n0 c0, .slice A1 n1 c1, .slice A2 n2 c2] 44))) (t := 44) (cs := #[.slice C0 m0 d0, .slice C1 m1 d1, .slice C2 m2 d2]) (by simp)).alloc (.cells #[.slice none 0 0, .slice none 0 0, .slice none 0 0] 44)).alloc (.cells #[.slice none 0 0, .slice none 0 0, .slice none 0 0] 44))
        clear hwL bzL
        go_enter Try.func26, Try.ntmps26
        have q0 : ((((w.alloc (.cells #[.slice A0 n0 c0, .slice A1 n1 c1, .slice A2 n2 c2] 44)).alloc (.cells #[.slice C0 m0 d0, .slice C1 m1 d1, .slice C2 m2 d2] 44)).alloc (.cells #[.slice none 0 0, .slice none 0 0, .slice none 0 0] 44)).alloc (.cells #[.slice none 0 0, .slice none 0 0, .slice none 0 0] 44)).cell? ⟨w.heap.size, 0, none⟩ = some (.slice A0 n0 c0) := bxL.cell 0
        have q1 : ((((w.alloc (.cells #[.slice A0 n0 c0, .slice A1 n1 c1, .slice A2 n2 c2] 44)).alloc (.cells #[.slice C0 m0 d0, .slice C1 m1 d1, .slice C2 m2 d2] 44)).alloc (.cells #[.slice none 0 0, .slice none 0 0, .slice none 0 0] 44)).alloc (.cells #[.slice none 0 0, .slice none 0 0, .slice none 0 0] 44)).cell? ⟨w.heap.size, 1, none⟩ = some (.slice A1 n1 c1) := bxL.cell 1
        have q2 : ((((w.alloc (.cells #[.slice A0 n0 c0, .slice A1 n1 c1, .slice A2 n2 c2] 44)).alloc (.cells #[.slice C0 m0 d0, .slice C1 m1 d1, .slice C2 m2 d2] 44)).alloc (.cells #[.slice none 0 0, .slice none 0 0, .slice none 0 0] 44)).alloc (.cells #[.slice none 0 0, .slice none 0 0, .slice none 0 0] 44)).cell? ⟨w.heap.size, 2, none⟩ = some (.slice A2 n2 c2) := bxL.cell 2
        have p0 : ((((w.alloc (.cells #[.slice A0 n0 c0, .slice A1 n1 c1, .slice A2 n2 c2] 44)).alloc (.cells #[.slice C0 m0 d0, .slice C1 m1 d1, .slice C2 m2 d2] 44)).alloc (.cells #[.slice none 0 0, .slice none 0 0, .slice none 0 0] 44)).alloc (.cells #[.slice none 0 0, .slice none 0 0, .slice none 0 0] 44)).cell? ⟨w.heap.size + 1, 0, none⟩ = some (.slice C0 m0 d0) := byL.cell 0
        have p1 : ((((w.alloc (.cells #[.slice A0 n0 c0, .slice A1 n1 c1, .slice A2 n2 c2] 44)).alloc (.cells #[.slice C0 m0 d0, .slice C1 m1 d1, .slice C2 m2 d2] 44)).alloc (.cells #[.slice none 0 0, .slice none 0 0, .slice none 0 0] 44)).alloc (.cells #[.slice none 0 0, .slice none 0 0, .slice none 0 0] 44)).cell? ⟨w.heap.size + 1, 1, none⟩ = some (.slice C1 m1 d1) := byL.cell 1
        have p2 : ((((w.alloc (.cells #[.slice A0 n0 c0, .slice A1 n1 c1, .slice A2 n2 c2] 44)).alloc (.cells #[.slice C0 m0 d0, .slice C1 m1 d1, .slice C2 m2 d2] 44)).alloc (.cells #[.slice none 0 0, .slice none 0 0, .slice none 0 0] 44)).alloc (.cells #[.slice none 0 0, .slice none 0 0, .slice none 0 0] 44)).cell? ⟨w.heap.size + 1, 2, none⟩ = some (.slice C2 m2 d2) := byL.cell 2
        go_wp2_with fail
        refine (specParityOk _ _ _ g _ _ (Nat.le_refl _) (har.keep (keeps_below hG.below))).mono ?_; rintro e w1 ⟨rfl, hb1⟩
        rw [HPB.out]
        replace hG := hG.move hb1; replace bxL := bxL.on hb1; replace byL := byL.on hb1
        clear q0 q1 q2 p0 p1 p2 hb1
        have q0 : w1.cell? ⟨w.heap.size, 0, none⟩ = some (.slice A0 n0 c0) := bxL.cell 0
        have q1 : w1.cell? ⟨w.heap.size, 1, none⟩ = some (.slice A1 n1 c1) := bxL.cell 1
        have q2 : w1.cell? ⟨w.heap.size, 2, none⟩ = some (.slice A2 n2 c2) := bxL.cell 2
        have p0 : w1.cell? ⟨w.heap.size + 1, 0, none⟩ = some (.slice C0 m0 d0) := byL.cell 0
        have p1 : w1.cell? ⟨w.heap.size + 1, 1, none⟩ = some (.slice C1 m1 d1) := byL.cell 1
        have p2 : w1.cell? ⟨w.heap.size + 1, 2, none⟩ = some (.slice C2 m2 d2) := byL.cell 2
        go_wp2_with fail
        refine (specParityOk _ _ _ h _ _ (Nat.le_refl _) (hbr.keep (keeps_below hG.below))).mono ?_; rintro e w2 ⟨rfl, hb2⟩
        rw [HPB2.out]
        replace hG := hG.move hb2; replace bxL := bxL.on hb2; replace byL := byL.on hb2
        clear q0 q1 q2 p0 p1 p2 hb2
        have q0 : w2.cell? ⟨w.heap.size, 0, none⟩ = some (.slice A0 n0 c0) := bxL.cell 0
        have q1 : w2.cell? ⟨w.heap.size, 1, none⟩ = some (.slice A1 n1 c1) := bxL.cell 1
        have q2 : w2.cell? ⟨w.heap.size, 2, none⟩ = some (.slice A2 n2 c2) := bxL.cell 2
        have p0 : w2.cell? ⟨w.heap.size + 1, 0, none⟩ = some (.slice C0 m0 d0) := byL.cell 0
        have p1 : w2.cell? ⟨w.heap.size + 1, 1, none⟩ = some (.slice C1 m1 d1) := byL.cell 1
        have p2 : w2.cell? ⟨w.heap.size + 1, 2, none⟩ = some (.slice C2 m2 d2) := byL.cell 2
        have g0 := hG.c0; have g1 := hG.c1; have g2 := hG.c2; have z0 := hG.z0; have z1 := hG.z1; have z2 := hG.z2; have f0 := hG.hotZ 0; have f1 := hG.hotZ 1; have f2 := hG.hotZ 2
        go_wp2
        clear q0 q1 q2 p0 p1 p2 g0 g1 g2 z0 z1 z2 f0 f1 f2
        go_loopw [7] (fun i wr => ∃ (k : Nat) (u0 u1 u2 : Value), k ≤ n2 ∧ i = .int .i64 k ∧ GSx (w.heap.size + 4) w wr (w.heap.size + 1 + 1) (w.heap.size + 1 + 1 + 1) u0 u1 u2 (firstUp g k) ∧ Box wr w.heap.size 44 #[.slice A0 n0 c0, .slice A1 n1 c1, .slice A2 n2 c2] ∧ Box wr (w.heap.size + 1) 44 #[.slice C0 m0 d0, .slice C1 m1 d1, .slice C2 m2 d2]) (fun i _ => n2 - (intOf i).toNat)
        case atStart => exact ⟨0, _, _, _, Nat.zero_le _, rfl, hG, bxL, byL⟩
        case round =>
          clear hG bxL byL
          obtain ⟨k, u0, u1, u2, hk, rfl, hG, hX, hY⟩ := hrel
          have hwr := hG.below
          have hord := hG.ord
          have hsz := hG.size
          have q0 : wr.cell? ⟨w.heap.size, 0, none⟩ = some (.slice A0 n0 c0) := hX.cell 0
          have q1 : wr.cell? ⟨w.heap.size, 1, none⟩ = some (.slice A1 n1 c1) := hX.cell 1
          have q2 : wr.cell? ⟨w.heap.size, 2, none⟩ = some (.slice A2 n2 c2) := hX.cell 2
          by_cases hlt : k < n2
          · have hlt0 : k < n0 := by have := H20.out; omega
            have hlt1 : k < n1 := by have := H10.out; have := H20.out; omega
            obtain ⟨bo, oo, rfl, hco⟩ := hr.at_ hlt0
            obtain ⟨bn, on, An, nn, cn, rfl, hcn, rn⟩ := hrr.at_ hlt1
            obtain ⟨bp, op, rfl, hcp⟩ := hrp.at_ hlt
            have lo_ := cell_lt hco; have ln_ := cell_lt hcn; have lp_ := cell_lt hcp
            have ko := below_cell hwr hco; have kn := below_cell hwr hcn; have kp := below_cell hwr hcp
            have hki : (k : Int) < (n0 : Int) := by omega
            have hki1 : (k : Int) < (n1 : Int) := by omega
            have hki2 : (k : Int) < (n2 : Int) := by omega
            have hk0 : (0 : Int) ≤ (k : Int) := by omega
            have hnn : nn ≤ 1048576 := by
              have := (HF.out.1.2.2.2 k (by rw [HL.out]; exact hlt0)).2.1.2
              rw [rn.len] at this; omega
            obtain ⟨U0, v0, U1, v1, U2, v2, rfl, rfl, rfl⟩ := hG.own.form
            have HN := Lib.hid (firstUp_succ (g := g) (k := k) (by rw [HL.out]; exact hlt0) (by rw [HM.out]; exact hlt1) (by rw [HP.out]; exact hlt))
            have g0 := hG.c0; have g1 := hG.c1; have g2 := hG.c2
            have x1 : ¬ w.heap.size + 1 + 1 + 1 = bo := by omega
            have x2 : ¬ w.heap.size + 1 + 1 + 1 = bn := by omega
            have x3 : ¬ w.heap.size + 1 + 1 + 1 = bp := by omega
            have x4 : ¬ w.heap.size + 1 + 1 + 1 = w.heap.size := by omega
            go_wp2_with fail
            refine wp_region_held_drew (S := (fun w' => w'.cell? ⟨w.heap.size, 0, none⟩ = some (.slice (some ⟨bo, oo, none⟩) n0 c0) ∧ w'.cell? ⟨w.heap.size, 1, none⟩ = some (.slice (some ⟨bn, on, none⟩) n1 c1) ∧ w'.cell? ⟨w.heap.size, 2, none⟩ = some (.slice (some ⟨bp, op, none⟩) n2 c2) ∧ w'.cell? ⟨bo, oo + k, none⟩ = some (.int .i64 (gi g.1 k)) ∧ w'.cell? ⟨bn, on + k, none⟩ = some (.slice An nn cn) ∧ w'.cell? ⟨bp, op + k, none⟩ = some (.int .i64 (gi g.2.2 k)))) (by kernel_rfl) (⟨q0, q1, q2, ko, kn, kp⟩) (fun hHeld => ?_)
            refine takeH1 (v := ?_) (by kernel_rfl) (by kernel_rfl) (by kernel_rfl) (fun _ _ _ h => h) hHeld (by rfl) ?_ ?_
            rotate_left; · (intro w hSw; (try dsimp only at hSw); go_simp; try with_reducible rfl)
            try simp only [Act.put, List.setIfInBounds_toArray, List.set_cons_zero, List.set_cons_succ]
            refine takeH2 (v := ?_) (by kernel_rfl) (by kernel_rfl) (by kernel_rfl) (fun _ _ _ h => h) hHeld (by rfl) ?_ ?_
            rotate_left; · (intro w hSw; (try dsimp only at hSw); go_simp; try with_reducible rfl)
            try simp only [Act.put, List.setIfInBounds_toArray, List.set_cons_zero, List.set_cons_succ]
            refine takeH3 (v := ?_) (by kernel_rfl) (by kernel_rfl) (by kernel_rfl) (fun _ _ _ h => h) hHeld (by rfl) ?_ ?_
            rotate_left; · (intro w hSw; (try dsimp only at hSw); go_simp; try with_reducible rfl)
            try simp only [Act.put, List.setIfInBounds_toArray, List.set_cons_zero, List.set_cons_succ]
            refine takeH4 (v := ?_) (by kernel_rfl) (by kernel_rfl) (by kernel_rfl) (fun _ _ _ h => h) hHeld (by rfl) ?_ ?_
            rotate_left; · (intro w hSw; (try dsimp only at hSw); go_simp; try with_reducible rfl)
            try simp only [Act.put, List.setIfInBounds_toArray, List.set_cons_zero, List.set_cons_succ]
            refine takeH5 (v := ?_) (by kernel_rfl) (by kernel_rfl) (by kernel_rfl) (fun _ _ _ h => h) hHeld (by rfl) ?_ ?_
            rotate_left; · (intro w hSw; (try dsimp only at hSw); go_simp; try with_reducible rfl)
            try simp only [Act.put, List.setIfInBounds_toArray, List.set_cons_zero, List.set_cons_succ]
            refine takeH6 (v := ?_) (by kernel_rfl) (by kernel_rfl) (by kernel_rfl) (fun _ _ _ h => h) hHeld (by rfl) ?_ ?_
            rotate_left; · (intro w hSw; (try dsimp only at hSw); go_simp; try with_reducible rfl)
            try simp only [Act.put, List.setIfInBounds_toArray, List.set_cons_zero, List.set_cons_succ]
            refine takeH7 (v := ?_) (by kernel_rfl) (by kernel_rfl) (by kernel_rfl) (fun _ _ _ h => h) hHeld (by rfl) ?_ ?_
            rotate_left; · (intro w hSw; (try dsimp only at hSw); go_simp; try with_reducible rfl)
            try simp only [Act.put, List.setIfInBounds_toArray, List.set_cons_zero, List.set_cons_succ]
            refine takeH8 (v := ?_) (by kernel_rfl) (by kernel_rfl) (by kernel_rfl) (fun _ _ _ h => h) hHeld (by rfl) ?_ ?_
            rotate_left; · (intro w hSw; (try dsimp only at hSw); go_simp; try with_reducible rfl)
            try simp only [Act.put, List.setIfInBounds_toArray, List.set_cons_zero, List.set_cons_succ]
            refine takeH9 (v := ?_) (by kernel_rfl) (by kernel_rfl) (by kernel_rfl) (fun _ _ _ h => h) hHeld (by rfl) ?_ ?_
            rotate_left; · (intro w hSw; (try dsimp only at hSw); go_simp; try with_reducible rfl)
            try simp only [Act.put, List.setIfInBounds_toArray, List.set_cons_zero, List.set_cons_succ]
            refine takeH10 (v := ?_) (by kernel_rfl) (by kernel_rfl) (by kernel_rfl) (fun _ _ _ h => h) hHeld (by rfl) ?_ ?_
            rotate_left; · (intro w hSw; (try dsimp only at hSw); go_simp; try with_reducible rfl)
            try simp only [Act.put, List.setIfInBounds_toArray, List.set_cons_zero, List.set_cons_succ]
            refine takeH11 (v := ?_) (by kernel_rfl) (by kernel_rfl) (by kernel_rfl) (fun _ _ _ h => h) hHeld (by rfl) ?_ ?_
            rotate_left; · (intro w hSw; (try dsimp only at hSw); go_simp; try with_reducible rfl)
            try simp only [Act.put, List.setIfInBounds_toArray, List.set_cons_zero, List.set_cons_succ]
            refine takeH12 (v := ?_) (by kernel_rfl) (by kernel_rfl) (by kernel_rfl) (fun _ _ _ h => h) hHeld (by rfl) ?_ ?_
            rotate_left; · (intro w hSw; (try dsimp only at hSw); go_simp; try with_reducible rfl)
            try simp only [Act.put, List.setIfInBounds_toArray, List.set_cons_zero, List.set_cons_succ]
            refine takeH13 (v := ?_) (by kernel_rfl) (by kernel_rfl) (by kernel_rfl) (fun _ _ _ h => h) hHeld (by rfl) ?_ ?_
            rotate_left; · (intro w hSw; (try dsimp only at hSw); go_simp; try with_reducible rfl)
            try simp only [Act.put, List.setIfInBounds_toArray, List.set_cons_zero, List.set_cons_succ]
            refine takeH14 (v := ?_) (by kernel_rfl) (by kernel_rfl) (by kernel_rfl) (fun _ _ _ h => h) hHeld (by rfl) ?_ ?_
            rotate_left; · (intro w hSw; (try dsimp only at hSw); go_simp; try with_reducible rfl)
            try simp only [Act.put, List.setIfInBounds_toArray, List.set_cons_zero, List.set_cons_succ]
            refine takeH15 (v := ?_) (by kernel_rfl) (by kernel_rfl) (by kernel_rfl) (fun _ _ _ h => h) hHeld (by rfl) ?_ ?_
            rotate_left; · (intro w hSw; (try dsimp only at hSw); go_simp; try with_reducible rfl)
            try simp only [Act.put, List.setIfInBounds_toArray, List.set_cons_zero, List.set_cons_succ]
            refine takeH16 (v := ?_) (by kernel_rfl) (by kernel_rfl) (by kernel_rfl) (fun _ _ _ h => h) hHeld (by rfl) ?_ ?_
            rotate_left; · (intro w hSw; (try dsimp only at hSw); go_simp; try with_reducible rfl)
            try simp only [Act.put, List.setIfInBounds_toArray, List.set_cons_zero, List.set_cons_succ]
            refine takeH17 (v := ?_) (by kernel_rfl) (by kernel_rfl) (by kernel_rfl) (fun _ _ _ h => h) hHeld (by rfl) ?_ ?_
            rotate_left; · (intro w hSw; (try dsimp only at hSw); go_simp; try with_reducible rfl)
            try simp only [Act.put, List.setIfInBounds_toArray, List.set_cons_zero, List.set_cons_succ]
            refine twoH_0_18 (by kernel_rfl) (fun K hK => ?_) (fun K hK => ?_)
            go_simp
            refine hK.out _ _ (⟨q0, q1, q2, ko, kn, kp⟩) (fun hHeld => ?_)
            clear hK K
            try simp only [Act.put, List.setIfInBounds_toArray, List.set_cons_zero, List.set_cons_succ]
            refine callH18 (by kernel_rfl) (fun K hK => ?_)
            go_simp
            go_at_call 94
            refine (l1Copy An nn cn (gl g.2.1 k) _ _ (Nat.le_refl _) (rn.keep (keeps_below (by repeat (first | with_reducible exact hwr | with_reducible refine Below.drew ?_)))) hnn).mono ?_
            rintro e wc ⟨v, rfl, hv, hbc⟩
            replace hbc := below_undrew hbc
            obtain ⟨Av, cv, rfl⟩ := hv.form
            have hG2 := hG.move hbc
            have hwc := hG2.below
            have hX2 := hX.on hbc
            have g0 := hG2.c0
            have g1 := hG2.c1
            have g2 := hG2.c2
            have q0 : wc.cell? ⟨w.heap.size, 0, none⟩ = some (.slice (some ⟨bo, oo, none⟩) n0 c0) := hX2.cell 0
            have q1 : wc.cell? ⟨w.heap.size, 1, none⟩ = some (.slice (some ⟨bn, on, none⟩) n1 c1) := hX2.cell 1
            have q2 : wc.cell? ⟨w.heap.size, 2, none⟩ = some (.slice (some ⟨bp, op, none⟩) n2 c2) := hX2.cell 2
            have ko := below_cell hwc hco
            have kn := below_cell hwc hcn
            have kp := below_cell hwc hcp
            go_wp2_with fail
            refine hK.out _ _ (⟨q0, q1, q2, ko, kn, kp⟩) (fun hHeld => ?_)
            clear hK K
            try simp only [Act.put, List.setIfInBounds_toArray, List.set_cons_zero, List.set_cons_succ]
            refine callH19 (by kernel_rfl) (fun K hK => ?_)
            go_simp
            go_at_call 93
            refine (l14More _ _ _ _ _ _ _ _ wr _ (w.heap.size + 4) hsz hG.own hbc (by exact hv) (firstUp_small (by omega))).mono ?_
            rintro e wd ⟨t0, t1, t2, rfl, hod, hbd⟩
            obtain ⟨T0, d0', T1, d1', T2, d2', rfl, rfl, rfl⟩ := hod.form
            replace hbd := (hbc.mono hsz).trans hbd
            obtain ⟨k1, k2, k3, k4⟩ := hG.call hbd
            have hX3 := hX.below hbd (by omega)
            have hY3 := hY.below hbd (by omega)
            have m0 := k2.hot 0
            have m1 := k2.hot 1
            have m2 := k2.hot 2
            have r0 : wd.cell? ⟨w.heap.size + 1 + 1 + 1, 0, none⟩ = some (.slice U0 (firstUp g k).1.length v0) := k2.cell 0
            have r1 : wd.cell? ⟨w.heap.size + 1 + 1 + 1, 1, none⟩ = some (.slice U1 (firstUp g k).2.1.length v1) := k2.cell 1
            have r2 : wd.cell? ⟨w.heap.size + 1 + 1 + 1, 2, none⟩ = some (.slice U2 (firstUp g k).2.2.length v2) := k2.cell 2
            have q0 : wd.cell? ⟨w.heap.size, 0, none⟩ = some (.slice (some ⟨bo, oo, none⟩) n0 c0) := hX3.cell 0
            have q1 : wd.cell? ⟨w.heap.size, 1, none⟩ = some (.slice (some ⟨bn, on, none⟩) n1 c1) := hX3.cell 1
            have q2 : wd.cell? ⟨w.heap.size, 2, none⟩ = some (.slice (some ⟨bp, op, none⟩) n2 c2) := hX3.cell 2
            have ko := below_cell k3 hco
            have kn := below_cell k3 hcn
            have kp := below_cell k3 hcp
            go_wp2_with fail
            refine hK.out _ _ (⟨q0, q1, q2, ko, kn, kp⟩) (fun hHeld => ?_)
            clear hK K
            try simp only [Act.put, List.setIfInBounds_toArray, List.set_cons_zero, List.set_cons_succ]
            refine callH20 (by kernel_rfl) (fun K hK => ?_)
            go_simp
            refine hK.out _ _ (by refine ⟨?_, ?_, ?_, ?_, ?_, ?_⟩ <;> simp [World.cell?_setCell_other, *]) (fun hHeld => ?_)
            clear hK K
            try simp only [Act.put, List.setIfInBounds_toArray, List.set_cons_zero, List.set_cons_succ]
            refine wpAnyH_done (by kernel_rfl) ?_ _
            rotate_left
            go_simp
            go_at_call 94
            refine (l1Copy An nn cn (gl g.2.1 k) _ _ (Nat.le_refl _) (rn.keep (keeps_below (by repeat (first | with_reducible exact hwr | with_reducible refine Below.drew ?_)))) hnn).mono ?_
            rintro e wc ⟨v, rfl, hv, hbc⟩
            replace hbc := below_undrew hbc
            obtain ⟨Av, cv, rfl⟩ := hv.form
            have hG2 := hG.move hbc
            have hwc := hG2.below
            have hX2 := hX.on hbc
            have g0 := hG2.c0
            have g1 := hG2.c1
            have g2 := hG2.c2
            have q0 : wc.cell? ⟨w.heap.size, 0, none⟩ = some (.slice (some ⟨bo, oo, none⟩) n0 c0) := hX2.cell 0
            have q1 : wc.cell? ⟨w.heap.size, 1, none⟩ = some (.slice (some ⟨bn, on, none⟩) n1 c1) := hX2.cell 1
            have q2 : wc.cell? ⟨w.heap.size, 2, none⟩ = some (.slice (some ⟨bp, op, none⟩) n2 c2) := hX2.cell 2
            have ko := below_cell hwc hco
            have kn := below_cell hwc hcn
            have kp := below_cell hwc hcp
            go_wp2_with fail
            refine hK.out _ _ (⟨q0, q1, q2, ko, kn, kp⟩) (fun hHeld => ?_)
            clear hK K
            try simp only [Act.put, List.setIfInBounds_toArray, List.set_cons_zero, List.set_cons_succ]
            refine callH0 (by kernel_rfl) (fun K hK => ?_)
            go_simp
            refine hK.out _ _ (⟨q0, q1, q2, ko, kn, kp⟩) (fun hHeld => ?_)
            clear hK K
            try simp only [Act.put, List.setIfInBounds_toArray, List.set_cons_zero, List.set_cons_succ]
            refine callH19 (by kernel_rfl) (fun K hK => ?_)
            go_simp
            go_at_call 93
            refine (l14More _ _ _ _ _ _ _ _ wr _ (w.heap.size + 4) hsz hG.own hbc (by exact hv) (firstUp_small (by omega))).mono ?_
            rintro e wd ⟨t0, t1, t2, rfl, hod, hbd⟩
            obtain ⟨T0, d0', T1, d1', T2, d2', rfl, rfl, rfl⟩ := hod.form
            replace hbd := (hbc.mono hsz).trans hbd
            obtain ⟨k1, k2, k3, k4⟩ := hG.call hbd
            have hX3 := hX.below hbd (by omega)
            have hY3 := hY.below hbd (by omega)
            have m0 := k2.hot 0
            have m1 := k2.hot 1
            have m2 := k2.hot 2
            have r0 : wd.cell? ⟨w.heap.size + 1 + 1 + 1, 0, none⟩ = some (.slice U0 (firstUp g k).1.length v0) := k2.cell 0
            have r1 : wd.cell? ⟨w.heap.size + 1 + 1 + 1, 1, none⟩ = some (.slice U1 (firstUp g k).2.1.length v1) := k2.cell 1
            have r2 : wd.cell? ⟨w.heap.size + 1 + 1 + 1, 2, none⟩ = some (.slice U2 (firstUp g k).2.2.length v2) := k2.cell 2
            have q0 : wd.cell? ⟨w.heap.size, 0, none⟩ = some (.slice (some ⟨bo, oo, none⟩) n0 c0) := hX3.cell 0
            have q1 : wd.cell? ⟨w.heap.size, 1, none⟩ = some (.slice (some ⟨bn, on, none⟩) n1 c1) := hX3.cell 1
            have q2 : wd.cell? ⟨w.heap.size, 2, none⟩ = some (.slice (some ⟨bp, op, none⟩) n2 c2) := hX3.cell 2
            have ko := below_cell k3 hco
            have kn := below_cell k3 hcn
            have kp := below_cell k3 hcp
            go_wp2_with fail
            refine hK.out _ _ (⟨q0, q1, q2, ko, kn, kp⟩) (fun hHeld => ?_)
            clear hK K
            try simp only [Act.put, List.setIfInBounds_toArray, List.set_cons_zero, List.set_cons_succ]
            refine callH20 (by kernel_rfl) (fun K hK => ?_)
            go_simp
            refine hK.out _ _ (by refine ⟨?_, ?_, ?_, ?_, ?_, ?_⟩ <;> simp [World.cell?_setCell_other, *]) (fun hHeld => ?_)
            clear hK K
            try simp only [Act.put, List.setIfInBounds_toArray, List.set_cons_zero, List.set_cons_succ]
            refine wpAnyH_done (by kernel_rfl) ?_ _
            rotate_left
            all_goals
              have hG4 := hG.store hbd hod
              have hX4 := hX3.far3 (b' := w.heap.size + 1 + 1 + 1) (by omega) (.slice T0 (addV (firstUp g k) (gi g.1 k) (gi g.2.2 k) (gl g.2.1 k)).1.length d0') (.slice T1 (addV (firstUp g k) (gi g.1 k) (gi g.2.2 k) (gl g.2.1 k)).2.1.length d1') (.slice T2 (addV (firstUp g k) (gi g.1 k) (gi g.2.2 k) (gl g.2.1 k)).2.2.length d2')
              have hY4 := hY3.far3 (b' := w.heap.size + 1 + 1 + 1) (by omega) (.slice T0 (addV (firstUp g k) (gi g.1 k) (gi g.2.2 k) (gl g.2.1 k)).1.length d0') (.slice T1 (addV (firstUp g k) (gi g.1 k) (gi g.2.2 k) (gl g.2.1 k)).2.1.length d1') (.slice T2 (addV (firstUp g k) (gi g.1 k) (gi g.2.2 k) (gl g.2.1 k)).2.2.length d2')
              have HG4 := Lib.hid hG4; have HX4 := Lib.hid hX4; have HY4 := Lib.hid hY4
              clear hG4 hX4 hY4
              go_wp2
              exact ⟨⟨k + 1, _, _, _, by omega, by go_num, by rw [HN.out]; exact HG4.out, HX4.out, HY4.out⟩, by simp [intOf]; omega⟩
          · obtain rfl : n2 = k := by omega
            rw [firstUp_full HF.out HP.out.symm, ← joinUp_zero g h] at hG
            clear hwr hsz
            go_wp2
            go_loopw [8] (fun i wr => ∃ (k : Nat) (u0 u1 u2 : Value), k ≤ m2 ∧ i = .int .i64 k ∧ GSx (w.heap.size + 4) w wr (w.heap.size + 1 + 1) (w.heap.size + 1 + 1 + 1) u0 u1 u2 (joinUp g h k) ∧ Box wr w.heap.size 44 #[.slice A0 n0 c0, .slice A1 n1 c1, .slice A2 n2 c2] ∧ Box wr (w.heap.size + 1) 44 #[.slice C0 m0 d0, .slice C1 m1 d1, .slice C2 m2 d2]) (fun i _ => m2 - (intOf i).toNat)
            case atStart => exact ⟨0, _, _, _, Nat.zero_le _, rfl, hG, hX, hY⟩
            case round =>
              clear hG hX hY q0 q1 q2
              obtain ⟨k, u0, u1, u2, hk2, rfl, hG, hX, hY⟩ := hrel
              have hwr := hG.below
              have hord := hG.ord
              have hsz := hG.size
              have q0 : wr.cell? ⟨w.heap.size, 0, none⟩ = some (.slice A0 n0 c0) := hX.cell 0
              have q1 : wr.cell? ⟨w.heap.size, 1, none⟩ = some (.slice A1 n1 c1) := hX.cell 1
              have q2 : wr.cell? ⟨w.heap.size, 2, none⟩ = some (.slice A2 n2 c2) := hX.cell 2
              have p0 : wr.cell? ⟨w.heap.size + 1, 0, none⟩ = some (.slice C0 m0 d0) := hY.cell 0
              have p1 : wr.cell? ⟨w.heap.size + 1, 1, none⟩ = some (.slice C1 m1 d1) := hY.cell 1
              have p2 : wr.cell? ⟨w.heap.size + 1, 2, none⟩ = some (.slice C2 m2 d2) := hY.cell 2
              by_cases hlt : k < m2
              · have hlt0 : k < m0 := by have := K20.out; omega
                have hlt1 : k < m1 := by have := K10.out; have := K20.out; omega
                obtain ⟨bo, oo, rfl, hco⟩ := kr.at_ hlt0
                obtain ⟨bn, on, An, nn, cn, rfl, hcn, rn⟩ := krr.at_ hlt1
                obtain ⟨bp, op, rfl, hcp⟩ := krp.at_ hlt
                have lo_ := cell_lt hco; have ln_ := cell_lt hcn; have lp_ := cell_lt hcp
                have ko := below_cell hwr hco; have kn := below_cell hwr hcn; have kp := below_cell hwr hcp
                have hki : (k : Int) < (m0 : Int) := by omega
                have hki1 : (k : Int) < (m1 : Int) := by omega
                have hki2 : (k : Int) < (m2 : Int) := by omega
                have hk0 : (0 : Int) ≤ (k : Int) := by omega
                have HRL := Lib.hid rn.len
                have hb1 := rn.cap; have hb2 := rn.top
                have hnn : nn ≤ 1048576 := by
                  have := (KF.out.1.2.2.2 k (by rw [KL.out]; exact hlt0)).2.1.2
                  rw [rn.len] at this; omega
                have hpn : ∀ j, j < nn → 0 ≤ gi (gl h.2.1 k) j ∧ gi (gl h.2.1 k) j ≤ 256 := fun j hj => by
                  have h1 := setB_true.1 (KF.out.1.2.2.2 k (by rw [KL.out]; exact hlt0)).2.2 j (by rw [HRL.out]; exact hj)
                  have h2 := h1.1; have h3 := h1.2.1
                  rw [KL.out] at h3
                  omega
                have HPN := Lib.hid hpn
                clear hpn
                obtain ⟨U0, v0, U1, v1, U2, v2, rfl, rfl, rfl⟩ := hG.own.form
                have HN := Lib.hid (joinUp_succ (g := g) (h := h) (k := k) (by rw [KL.out]; exact hlt0) (by rw [KM.out]; exact hlt1) (by rw [KP.out]; exact hlt))
                generalize wr = wo at *
                have hem := OI.empty (E := 2) (w := wo) (B := wo.heap.size) (Nat.le_refl _)
                have hbl : Below wo.heap.size wo (wo.alloc (.cells #[] 2)) := below_alloc (Nat.le_refl _) (Below.refl _ _)
                go_wp2
                go_loopw [9, 10] (fun v i wr => ∃ j : Nat, j ≤ nn ∧ i = .int .i64 j ∧ OI 2 wr wo.heap.size v (shift n2 ((gl h.2.1 k).take j)) ∧ Below wo.heap.size wo wr) (fun _ i _ => nn - (intOf i).toNat)
                case atStart => exact ⟨0, Nat.zero_le _, rfl, by simpa [shift] using hem, hbl⟩
                case round =>
                  clear hem hbl
                  obtain ⟨j, hj, rfl, hov, hbq⟩ := hrel
                  have hlv : (shift n2 ((gl h.2.1 k).take j)).length ≤ 1048576 := by rw [shift_len, List.length_take]; omega
                  have hwq := below_then hbq hwr.size hwr
                  have hsq := hbq.size
                  have hXq := hX.on hbq; have hYq := hY.on hbq; have hGq := hG.move hbq
                  have q0 : wr.cell? ⟨w.heap.size, 0, none⟩ = some (.slice A0 n0 c0) := hXq.cell 0
                  have q1 : wr.cell? ⟨w.heap.size, 1, none⟩ = some (.slice A1 n1 c1) := hXq.cell 1
                  have q2 : wr.cell? ⟨w.heap.size, 2, none⟩ = some (.slice A2 n2 c2) := hXq.cell 2
                  have p0 : wr.cell? ⟨w.heap.size + 1, 0, none⟩ = some (.slice (some ⟨bo, oo, none⟩) m0 d0) := hYq.cell 0
                  have p1 : wr.cell? ⟨w.heap.size + 1, 1, none⟩ = some (.slice (some ⟨bn, on, none⟩) m1 d1) := hYq.cell 1
                  have p2 : wr.cell? ⟨w.heap.size + 1, 2, none⟩ = some (.slice (some ⟨bp, op, none⟩) m2 d2) := hYq.cell 2
                  have ko := below_cell hwq hco; have kn := below_cell hwq hcn; have kp := below_cell hwq hcp
                  by_cases hlj : j < nn
                  · obtain ⟨br', or', rfl, hcr⟩ := rn.at_ hlj
                    have kr' := below_cell hwq hcr
                    have hpp := HPN.out j hlj
                    have hp1 := hpp.1; have hp2 := hpp.2
                    have hji : (j : Int) < (nn : Int) := by omega
                    have hj0 : (0 : Int) ≤ (j : Int) := by omega
                    have e7 : IntKind.i64.wrap (gi (gl h.2.1 k) j + (n2 : Int)) = gi (gl h.2.1 k) j + (n2 : Int) := IntWalk.i64_in _ (by omega)
                    have HX := Lib.hid (shift_take (d := n2) (xs := gl h.2.1 k) (k := j) (by rw [HRL.out]; exact hlj))
                    have hwr' := hwr
                    clear hpp hwr
                    have hq1 : RI (wr.drew.alloc (.cells #[.int .i64 (gi (gl h.2.1 k) j + (n2 : Int))] 2)) (some ⟨wr.drew.heap.size, 0, none⟩) 1 1 [gi (gl h.2.1 k) j + (n2 : Int)] := RI.one1 ((Box.new wr.drew 2 #[.int .i64 (gi (gl h.2.1 k) j + (n2 : Int))]).cell 0)
                    have hbz : Below wr.drew.heap.size wr.drew (wr.drew.alloc (.cells #[.int .i64 (gi (gl h.2.1 k) j + (n2 : Int))] 2)) := below_alloc (Nat.le_refl _) (Below.refl _ _)
                    have hoz := hov.drew.below hbz
                    have hbz2 := below_then hbz hbq.drew.size hbq.drew
                    have hz2 := hbz2.size
                    go_wp2_with fail
                    refine wp_region_held_drew (S := (fun w' => w'.cell? ⟨w.heap.size, 2, none⟩ = some (.slice A2 n2 c2) ∧ w'.cell? ⟨w.heap.size + 1, 1, none⟩ = some (.slice (some ⟨bn, on, none⟩) m1 d1) ∧ w'.cell? ⟨bn, on + k, none⟩ = some (.slice (some ⟨br', or', none⟩) nn cn) ∧ w'.cell? ⟨br', or' + j, none⟩ = some (.int .i64 (gi (gl h.2.1 k) j)))) (by kernel_rfl) (⟨q2, p1, kn, kr'⟩) (fun hHeld => ?_)
                    refine takeH0 (v := ?_) (by kernel_rfl) (by kernel_rfl) (by kernel_rfl) (fun _ _ _ h => h) hHeld (by rfl) ?_ ?_
                    rotate_left; · (intro w hSw; (try dsimp only at hSw); go_simp; try with_reducible rfl)
                    try simp only [Act.put, List.setIfInBounds_toArray, List.set_cons_zero, List.set_cons_succ]
                    refine takeH1 (v := ?_) (by kernel_rfl) (by kernel_rfl) (by kernel_rfl) (fun _ _ _ h => h) hHeld (by rfl) ?_ ?_
                    rotate_left; · (intro w hSw; (try dsimp only at hSw); go_simp; try with_reducible rfl)
                    try simp only [Act.put, List.setIfInBounds_toArray, List.set_cons_zero, List.set_cons_succ]
                    refine takeH2 (v := ?_) (by kernel_rfl) (by kernel_rfl) (by kernel_rfl) (fun _ _ _ h => h) hHeld (by rfl) ?_ ?_
                    rotate_left; · (intro w hSw; (try dsimp only at hSw); go_simp; try with_reducible rfl)
                    try simp only [Act.put, List.setIfInBounds_toArray, List.set_cons_zero, List.set_cons_succ]
                    refine takeH3 (v := ?_) (by kernel_rfl) (by kernel_rfl) (by kernel_rfl) (fun _ _ _ h => h) hHeld (by rfl) ?_ ?_
                    rotate_left; · (intro w hSw; (try dsimp only at hSw); go_simp; try with_reducible rfl)
                    try simp only [Act.put, List.setIfInBounds_toArray, List.set_cons_zero, List.set_cons_succ]
                    refine takeH4 (v := ?_) (by kernel_rfl) (by kernel_rfl) (by kernel_rfl) (fun _ _ _ h => h) hHeld (by rfl) ?_ ?_
                    rotate_left; · (intro w hSw; (try dsimp only at hSw); go_simp; try with_reducible rfl)
                    try simp only [Act.put, List.setIfInBounds_toArray, List.set_cons_zero, List.set_cons_succ]
                    refine takeH5 (v := ?_) (by kernel_rfl) (by kernel_rfl) (by kernel_rfl) (fun _ _ _ h => h) hHeld (by rfl) ?_ ?_
                    rotate_left; · (intro w hSw; (try dsimp only at hSw); go_simp; try with_reducible rfl)
                    try simp only [Act.put, List.setIfInBounds_toArray, List.set_cons_zero, List.set_cons_succ]
                    refine takeH6 (v := ?_) (by kernel_rfl) (by kernel_rfl) (by kernel_rfl) (fun _ _ _ h => h) hHeld (by rfl) ?_ ?_
                    rotate_left; · (intro w hSw; (try dsimp only at hSw); go_simp; try with_reducible rfl)
                    try simp only [Act.put, List.setIfInBounds_toArray, List.set_cons_zero, List.set_cons_succ]
                    refine takeH7 (v := ?_) (by kernel_rfl) (by kernel_rfl) (by kernel_rfl) (fun _ _ _ h => h) hHeld (by rfl) ?_ ?_
                    rotate_left; · (intro w hSw; (try dsimp only at hSw); go_simp; try with_reducible rfl)
                    try simp only [Act.put, List.setIfInBounds_toArray, List.set_cons_zero, List.set_cons_succ]
                    refine takeH8 (v := ?_) (by kernel_rfl) (by kernel_rfl) (by kernel_rfl) (fun _ _ _ h => h) hHeld (by rfl) ?_ ?_
                    rotate_left; · (intro w hSw; (try dsimp only at hSw); go_simp; try with_reducible rfl)
                    try simp only [Act.put, List.setIfInBounds_toArray, List.set_cons_zero, List.set_cons_succ]
                    refine takeH9 (v := ?_) (by kernel_rfl) (by kernel_rfl) (by kernel_rfl) (fun _ _ _ h => h) hHeld (by rfl) ?_ ?_
                    rotate_left; · (intro w hSw; (try dsimp only at hSw); go_simp; try with_reducible rfl)
                    try simp only [Act.put, List.setIfInBounds_toArray, List.set_cons_zero, List.set_cons_succ]
                    refine takeH10 (v := ?_) (by kernel_rfl) (by kernel_rfl) (by kernel_rfl) (fun _ _ _ h => h) hHeld (by rfl) ?_ ?_
                    rotate_left; · (intro w hSw; (try dsimp only at hSw); go_simp; try with_reducible rfl)
                    try simp only [Act.put, List.setIfInBounds_toArray, List.set_cons_zero, List.set_cons_succ]
                    refine takeH11 (v := ?_) (by kernel_rfl) (by kernel_rfl) (by kernel_rfl) (fun _ _ _ h => h) hHeld (by rfl) ?_ ?_
                    rotate_left; · (intro w hSw; (try dsimp only at hSw); go_simp; try with_reducible rfl)
                    try simp only [Act.put, List.setIfInBounds_toArray, List.set_cons_zero, List.set_cons_succ]
                    refine takeH12 (v := ?_) (by kernel_rfl) (by kernel_rfl) (by kernel_rfl) (fun _ _ _ h => h) hHeld (by rfl) ?_ ?_
                    rotate_left; · (intro w hSw; (try dsimp only at hSw); go_simp; try with_reducible rfl)
                    try simp only [Act.put, List.setIfInBounds_toArray, List.set_cons_zero, List.set_cons_succ]
                    refine takeH13 (v := ?_) (by kernel_rfl) (by kernel_rfl) (by kernel_rfl) (fun _ _ _ h => h) hHeld (by rfl) ?_ ?_
                    rotate_left; · (intro w hSw; (try dsimp only at hSw); go_simp; try with_reducible rfl)
                    try simp only [Act.put, List.setIfInBounds_toArray, List.set_cons_zero, List.set_cons_succ]
                    refine callH14 (by kernel_rfl) (fun K hK => ?_)
                    go_simp
                    refine hK.out _ _ (⟨keepA q2, keepA p1, keepA kn, keepA kr'⟩) (fun hHeld => ?_)
                    clear hK K
                    try simp only [Act.put, List.setIfInBounds_toArray, List.set_cons_zero, List.set_cons_succ]
                    refine callH15 (by kernel_rfl) (fun K hK => ?_)
                    refine step_of_list (by rfl) (wp_appI (.tmp 77) (.tmp 91) (by rfl) (wr.drew.alloc (.cells #[.int .i64 (gi (gl h.2.1 k) j + (n2 : Int))] 2)) wo.heap.size u9 (shift n2 ((gl h.2.1 k).take j)) (by rfl) hoz (some ⟨wr.drew.heap.size, 0, none⟩) 1 1 [gi (gl h.2.1 k) j + (n2 : Int)] (by rfl) hq1 (by omega) (by omega) hz2 ?_)
                    intro v2 w2 ho2 hb2 hc2 hat2
                    have hbf := hbz2.trans hb2
                    have hwf := below_then hbf hwr'.size hwr'
                    have q2 : w2.cell? ⟨w.heap.size, 2, none⟩ = some (.slice A2 n2 c2) := (hX.on hbf).cell 2
                    have p1 : w2.cell? ⟨w.heap.size + 1, 1, none⟩ = some (.slice (some ⟨bn, on, none⟩) m1 d1) := (hY.on hbf).cell 1
                    have kn := below_cell hwf hcn
                    have kr' := below_cell hwf hcr
                    refine hK.out _ _ (⟨q2, p1, kn, kr'⟩) (fun hHeld => ?_)
                    clear hK K
                    try simp only [Act.put, List.setIfInBounds_toArray, List.set_cons_zero, List.set_cons_succ]
                    refine takeH16 (v := ?_) (by kernel_rfl) (by kernel_rfl) (by kernel_rfl) (fun _ _ _ h => h) hHeld (by rfl) ?_ ?_
                    rotate_left; · (intro w hSw; (try dsimp only at hSw); go_simp; try with_reducible rfl)
                    try simp only [Act.put, List.setIfInBounds_toArray, List.set_cons_zero, List.set_cons_succ]
                    refine wpAnyH_done (by kernel_rfl) ?_ _
                    go_wp2
                    go_roundw
                    case rel => exact ⟨j + 1, by omega, by go_num, by rw [HX.out]; exact ho2, hbf⟩
                    case measure => simp [intOf]; omega
                  · obtain rfl : nn = j := by omega
                    have HRW := Lib.hid (show shift n2 ((gl h.2.1 k).take nn) = shift g.2.2.length (gl h.2.1 k) by rw [List.take_of_length_le (by rw [HRL.out]; omega), HP.out])
                    rw [HRW.out] at hov
                    obtain ⟨Av, cv, rfl⟩ := hov.form
                    have g0 := hGq.c0; have g1 := hGq.c1; have g2 := hGq.c2
                    clear hwr
                    go_wp2_with fail
                    go_still_tail 13, (by kernel_rfl)
                    change wpList _ _ _ _ _ wr.drew
                    replace hov := hov.drew
                    replace hbq : Below wo.heap.size wo wr.drew := Below.drew hbq
                    replace hGq := hGq.move (w := wr.drew) (Below.drew (Below.refl _ _))
                    replace hXq : Box wr.drew _ _ _ := hXq
                    replace hYq : Box wr.drew _ _ _ := hYq
                    clear g0 g1 g2 q0 q1 q2 p0 p1 p2 ko kn kp hwq hsq
                    generalize wr.drew = wz at *
                    go_wp2_with fail
                    refine (l14More _ _ _ _ _ _ _ _ wo _ (w.heap.size + 4) hsz hG.own hbq hov (joinUp_small HF.out (by omega))).mono ?_
                    rintro e wd ⟨t0, t1, t2, rfl, hod, hbd⟩
                    obtain ⟨T0, d0', T1, d1', T2, d2', rfl, rfl, rfl⟩ := hod.form
                    have hbd' := (hbq.mono hsz).trans hbd
                    obtain ⟨k1, k2, k3, k4⟩ := hGq.call hbd
                    have hX3 := hXq.below hbd (by omega)
                    have hY3 := hYq.below hbd (by omega)
                    have m0 := k2.hot 0
                    have m1 := k2.hot 1
                    have m2' := k2.hot 2
                    have r0 : wd.cell? ⟨w.heap.size + 1 + 1 + 1, 0, none⟩ = some (.slice U0 (joinUp g h k).1.length v0) := k2.cell 0
                    have r1 : wd.cell? ⟨w.heap.size + 1 + 1 + 1, 1, none⟩ = some (.slice U1 (joinUp g h k).2.1.length v1) := k2.cell 1
                    have r2 : wd.cell? ⟨w.heap.size + 1 + 1 + 1, 2, none⟩ = some (.slice U2 (joinUp g h k).2.2.length v2) := k2.cell 2
                    have hG4 := hGq.store hbd hod
                    have hX4 := hX3.far3 (b' := w.heap.size + 1 + 1 + 1) (by omega) (.slice T0 (addV (joinUp g h k) (gi h.1 k) (gi h.2.2 k) (shift g.2.2.length (gl h.2.1 k))).1.length d0') (.slice T1 (addV (joinUp g h k) (gi h.1 k) (gi h.2.2 k) (shift g.2.2.length (gl h.2.1 k))).2.1.length d1') (.slice T2 (addV (joinUp g h k) (gi h.1 k) (gi h.2.2 k) (shift g.2.2.length (gl h.2.1 k))).2.2.length d2')
                    have hY4 := hY3.far3 (b' := w.heap.size + 1 + 1 + 1) (by omega) (.slice T0 (addV (joinUp g h k) (gi h.1 k) (gi h.2.2 k) (shift g.2.2.length (gl h.2.1 k))).1.length d0') (.slice T1 (addV (joinUp g h k) (gi h.1 k) (gi h.2.2 k) (shift g.2.2.length (gl h.2.1 k))).2.1.length d1') (.slice T2 (addV (joinUp g h k) (gi h.1 k) (gi h.2.2 k) (shift g.2.2.length (gl h.2.1 k))).2.2.length d2')
                    have HG4 := Lib.hid hG4; have HX4 := Lib.hid hX4; have HY4 := Lib.hid hY4
                    clear hG4 hX4 hY4
                    go_wp2
                    exact ⟨⟨k + 1, _, _, _, by omega, by go_num, by rw [HN.out]; exact HG4.out, HX4.out, HY4.out⟩, by simp [intOf]; omega⟩
              · obtain rfl : m2 = k := by omega
                have E := Lib.hid (join_yes HPB.out HPB2.out (by rw [HP.out, KP.out]; exact HLE.out))
                have E2 := Lib.hid (show joinG g h = joinUp g h m2 by rw [joinG_yes E.out, KP.out])
                obtain ⟨U0, v0, U1, v1, U2, v2, rfl, rfl, rfl⟩ := hG.own.form
                have g0 := hG.c0; have g1 := hG.c1; have g2 := hG.c2; have z0 := hG.z0; have z1 := hG.z1; have z2 := hG.z2; have f0 := hG.hotZ 0; have f1 := hG.hotZ 1; have f2 := hG.hotZ 2
                obtain ⟨hF1, hF2, hF3⟩ := hG.fin
                have R0 := hF3.cell 0; have R1 := hF3.cell 1; have R2 := hF3.cell 2
                simp only [List.getElem?_toArray, List.getElem?_cons_zero, List.getElem?_cons_succ] at R0 R1 R2
                go_wp2
                exact bodyPost_ret (v := .tuple #[.agg #[.slice U0 (joinUp g h m2).1.length v0, .slice U1 (joinUp g h m2).2.1.length v1, .slice U2 (joinUp g h m2).2.2.length v2], .bool true]) (by simp [results, Try.results26, go_sem, R0, R1, R2]) rfl ⟨_, _, _, by rw [E.out], by rw [E2.out]; exact hF1.more (by omega), hF2.mono hB⟩
      · have E := Lib.hid (join_len (g := g) (h := h) (by rw [HP.out, KP.out]; exact hle))
        have E2 := Lib.hid (joinG_no E.out)
        have hwL : Below w.heap.size w (((w.alloc (.cells #[.slice A0 n0 c0, .slice A1 n1 c1, .slice A2 n2 c2] 44)).alloc (.cells #[.slice C0 m0 d0, .slice C1 m1 d1, .slice C2 m2 d2] 44)).alloc (.cells #[.slice none 0 0, .slice none 0 0, .slice none 0 0] 44)) := below_alloc (Nat.le_refl _) (below_alloc (Nat.le_refl _) (below_alloc (Nat.le_refl _) (Below.refl _ _)))
        have bzL : Box (((w.alloc (.cells #[.slice A0 n0 c0, .slice A1 n1 c1, .slice A2 n2 c2] 44)).alloc (.cells #[.slice C0 m0 d0, .slice C1 m1 d1, .slice C2 m2 d2] 44)).alloc (.cells #[.slice none 0 0, .slice none 0 0, .slice none 0 0] 44)) (w.heap.size + 1 + 1) 44 #[.slice none 0 0, .slice none 0 0, .slice none 0 0] := Box.new' (by simp)
        have hG := GSx.start1 (B := w.heap.size + 4) (bg := w.heap.size + 1 + 1 + 1) hwL (by omega) bzL (by simp) (by simp)
        have bxL := ((((Box.new w 44 #[.slice A0 n0 c0, .slice A1 n1 c1, .slice A2 n2 c2]).alloc (.cells #[.slice C0 m0 d0, .slice C1 m1 d1, .slice C2 m2 d2] 44)).alloc (.cells #[.slice none 0 0, .slice none 0 0, .slice none 0 0] 44)).alloc (.cells #[.slice none 0 0, .slice none 0 0, .slice none 0 0] 44))
        have byL : Box ((((w.alloc (.cells #[.slice A0 n0 c0, .slice A1 n1 c1, .slice A2 n2 c2] 44)).alloc (.cells #[.slice C0 m0 d0, .slice C1 m1 d1, .slice C2 m2 d2] 44)).alloc (.cells #[.slice none 0 0, .slice none 0 0, .slice none 0 0] 44)).alloc (.cells #[.slice none 0 0, .slice none 0 0, .slice none 0 0] 44)) (w.heap.size + 1) 44 #[.slice C0 m0 d0, .slice C1 m1 d1, .slice C2 m2 d2] := (((Box.new' (w := (w.alloc (.cells #[.slice A0 n0 c0, .slice A1 n1 c1, .slice A2 n2 c2] 44))) (t := 44) (cs := #[.slice C0 m0 d0, .slice C1 m1 d1, .slice C2 m2 d2]) (by simp)).alloc (.cells #[.slice none 0 0, .slice none 0 0, .slice none 0 0] 44)).alloc (.cells #[.slice none 0 0, .slice none 0 0, .slice none 0 0] 44))
        clear hwL bzL
        go_enter Try.func26, Try.ntmps26
        have q0 : ((((w.alloc (.cells #[.slice A0 n0 c0, .slice A1 n1 c1, .slice A2 n2 c2] 44)).alloc (.cells #[.slice C0 m0 d0, .slice C1 m1 d1, .slice C2 m2 d2] 44)).alloc (.cells #[.slice none 0 0, .slice none 0 0, .slice none 0 0] 44)).alloc (.cells #[.slice none 0 0, .slice none 0 0, .slice none 0 0] 44)).cell? ⟨w.heap.size, 0, none⟩ = some (.slice A0 n0 c0) := bxL.cell 0
        have q1 : ((((w.alloc (.cells #[.slice A0 n0 c0, .slice A1 n1 c1, .slice A2 n2 c2] 44)).alloc (.cells #[.slice C0 m0 d0, .slice C1 m1 d1, .slice C2 m2 d2] 44)).alloc (.cells #[.slice none 0 0, .slice none 0 0, .slice none 0 0] 44)).alloc (.cells #[.slice none 0 0, .slice none 0 0, .slice none 0 0] 44)).cell? ⟨w.heap.size, 1, none⟩ = some (.slice A1 n1 c1) := bxL.cell 1
        have q2 : ((((w.alloc (.cells #[.slice A0 n0 c0, .slice A1 n1 c1, .slice A2 n2 c2] 44)).alloc (.cells #[.slice C0 m0 d0, .slice C1 m1 d1, .slice C2 m2 d2] 44)).alloc (.cells #[.slice none 0 0, .slice none 0 0, .slice none 0 0] 44)).alloc (.cells #[.slice none 0 0, .slice none 0 0, .slice none 0 0] 44)).cell? ⟨w.heap.size, 2, none⟩ = some (.slice A2 n2 c2) := bxL.cell 2
        have p0 : ((((w.alloc (.cells #[.slice A0 n0 c0, .slice A1 n1 c1, .slice A2 n2 c2] 44)).alloc (.cells #[.slice C0 m0 d0, .slice C1 m1 d1, .slice C2 m2 d2] 44)).alloc (.cells #[.slice none 0 0, .slice none 0 0, .slice none 0 0] 44)).alloc (.cells #[.slice none 0 0, .slice none 0 0, .slice none 0 0] 44)).cell? ⟨w.heap.size + 1, 0, none⟩ = some (.slice C0 m0 d0) := byL.cell 0
        have p1 : ((((w.alloc (.cells #[.slice A0 n0 c0, .slice A1 n1 c1, .slice A2 n2 c2] 44)).alloc (.cells #[.slice C0 m0 d0, .slice C1 m1 d1, .slice C2 m2 d2] 44)).alloc (.cells #[.slice none 0 0, .slice none 0 0, .slice none 0 0] 44)).alloc (.cells #[.slice none 0 0, .slice none 0 0, .slice none 0 0] 44)).cell? ⟨w.heap.size + 1, 1, none⟩ = some (.slice C1 m1 d1) := byL.cell 1
        have p2 : ((((w.alloc (.cells #[.slice A0 n0 c0, .slice A1 n1 c1, .slice A2 n2 c2] 44)).alloc (.cells #[.slice C0 m0 d0, .slice C1 m1 d1, .slice C2 m2 d2] 44)).alloc (.cells #[.slice none 0 0, .slice none 0 0, .slice none 0 0] 44)).alloc (.cells #[.slice none 0 0, .slice none 0 0, .slice none 0 0] 44)).cell? ⟨w.heap.size + 1, 2, none⟩ = some (.slice C2 m2 d2) := byL.cell 2
        go_wp2_with fail
        refine (specParityOk _ _ _ g _ _ (Nat.le_refl _) (har.keep (keeps_below hG.below))).mono ?_; rintro e w1 ⟨rfl, hb1⟩
        rw [HPB.out]
        replace hG := hG.move hb1; replace bxL := bxL.on hb1; replace byL := byL.on hb1
        clear q0 q1 q2 p0 p1 p2 hb1
        have q0 : w1.cell? ⟨w.heap.size, 0, none⟩ = some (.slice A0 n0 c0) := bxL.cell 0
        have q1 : w1.cell? ⟨w.heap.size, 1, none⟩ = some (.slice A1 n1 c1) := bxL.cell 1
        have q2 : w1.cell? ⟨w.heap.size, 2, none⟩ = some (.slice A2 n2 c2) := bxL.cell 2
        have p0 : w1.cell? ⟨w.heap.size + 1, 0, none⟩ = some (.slice C0 m0 d0) := byL.cell 0
        have p1 : w1.cell? ⟨w.heap.size + 1, 1, none⟩ = some (.slice C1 m1 d1) := byL.cell 1
        have p2 : w1.cell? ⟨w.heap.size + 1, 2, none⟩ = some (.slice C2 m2 d2) := byL.cell 2
        go_wp2_with fail
        refine (specParityOk _ _ _ h _ _ (Nat.le_refl _) (hbr.keep (keeps_below hG.below))).mono ?_; rintro e w2 ⟨rfl, hb2⟩
        rw [HPB2.out]
        replace hG := hG.move hb2; replace bxL := bxL.on hb2; replace byL := byL.on hb2
        clear q0 q1 q2 p0 p1 p2 hb2
        have q0 : w2.cell? ⟨w.heap.size, 0, none⟩ = some (.slice A0 n0 c0) := bxL.cell 0
        have q1 : w2.cell? ⟨w.heap.size, 1, none⟩ = some (.slice A1 n1 c1) := bxL.cell 1
        have q2 : w2.cell? ⟨w.heap.size, 2, none⟩ = some (.slice A2 n2 c2) := bxL.cell 2
        have p0 : w2.cell? ⟨w.heap.size + 1, 0, none⟩ = some (.slice C0 m0 d0) := byL.cell 0
        have p1 : w2.cell? ⟨w.heap.size + 1, 1, none⟩ = some (.slice C1 m1 d1) := byL.cell 1
        have p2 : w2.cell? ⟨w.heap.size + 1, 2, none⟩ = some (.slice C2 m2 d2) := byL.cell 2
        have hgt : (256 : Int) < (n2 : Int) + (m2 : Int) := by omega
        have l1 := H20.out; have l2 := K20.out
        clear l1 l2
        have g0 := hG.c0; have g1 := hG.c1; have g2 := hG.c2; have z0 := hG.z0; have z1 := hG.z1; have z2 := hG.z2; have f0 := hG.hotZ 0; have f1 := hG.hotZ 1; have f2 := hG.hotZ 2
        obtain ⟨hwZ, bxZ⟩ := hG.fin0
        have R0 := bxZ.cell 0; have R1 := bxZ.cell 1; have R2 := bxZ.cell 2
        simp only [List.getElem?_toArray, List.getElem?_cons_zero, List.getElem?_cons_succ] at R0 R1 R2
        go_wp2
        exact bodyPost_ret (v := .tuple #[.agg #[.slice none 0 0, .slice none 0 0, .slice none 0 0], .bool false]) (by simp [results, Try.results26, go_sem, R0, R1, R2]) rfl ⟨_, _, _, by rw [E.out], by rw [E2.out]; exact OPar.nil _ _, hwZ.mono hB⟩

end Go.Proofs.Ytfjhkjikfjpnpaa
