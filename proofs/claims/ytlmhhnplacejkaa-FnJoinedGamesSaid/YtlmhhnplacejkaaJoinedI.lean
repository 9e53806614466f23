/- JoinedGame: impl. -/
import Derived.Test.YtlmhhnplacejkaaJoined
import Derived.Test.YtlmhhnplacejkaaVertex
import Derived.Test.YtlmhhnplacejkaaParL
namespace Go.Proofs.Ytlmhhnplacejkaa
open Go.RowKit

/-- a row's block is no box of another type -/
theorem row_box {E t : TypeId} {w : World} {lo size n b : Nat} {v : Value} {cs : List Value} {xs : Array Value} (h : w.ownsRow lo E size v n cs) (hb : Box w b t xs) (hne : E ≠ t) : v.ownBlock ≠ some b := by
  intro hv
  rcases h.2 with ⟨rfl, _⟩ | ⟨g, cap, cur, rfl, _, h3, _⟩
  · simp [Value.ownBlock] at hv
  · simp [Value.ownBlock] at hv
    subst hv
    unfold Box at hb
    rw [hb] at h3
    injection h3 with h3
    injection h3 with _ e
    exact hne e.symm
theorem OPar.chgBox {w w' : World} {lo b : Nat} {t : TypeId} {xs : Array Value} {s0 s1 s2 : Value} {g : ParD} (h : OPar w lo s0 s1 s2 g) (hb : Box w b t xs) (h1 : 2 ≠ t) (h2 : 27 ≠ t) (hc : Chg (fun x => x = b) w w') : OPar w' lo s0 s1 s2 g := by
  obtain ⟨cs, ⟨k0, k1, k2⟩, k3, k4⟩ := h
  have no : ∀ {v : Value} {xs : List Int}, OI 2 w lo v xs → ∀ z, v.ownBlock = some z → ¬ z = b := fun ho z hz e => row_box ho hb h1 (by rw [hz, e])
  exact ⟨cs, ⟨k0.chg hc (no k0), row_chg k1 hc (fun z hz e => row_box k1 hb h2 (by rw [hz, e])), fun i hi => (k2 i hi).chg hc (no (k2 i hi))⟩, k3.chg hc (no k3), k4⟩
theorem OPar.noBox {w : World} {lo b : Nat} {t : TypeId} {xs : Array Value} {s0 s1 s2 : Value} {g : ParD} (h : OPar w lo s0 s1 s2 g) (hb : Box w b t xs) (h1 : 2 ≠ t) (h2 : 27 ≠ t) : ¬ (s0.ownBlock = some b ∨ s1.ownBlock = some b ∨ s2.ownBlock = some b) := by
  obtain ⟨cs, ⟨k0, k1, k2⟩, k3, k4⟩ := h
  rintro (h | h | h)
  · exact row_box k0 hb h1 h
  · exact row_box k1 hb h2 h
  · exact row_box k3 hb h1 h
theorem OPar.oldBox {w : World} {lo : Nat} {s0 s1 s2 : Value} {g : ParD} (h : OPar w lo s0 s1 s2 g) : ∀ b, (s0.ownBlock = some b ∨ s1.ownBlock = some b ∨ s2.ownBlock = some b) → lo ≤ b := by
  obtain ⟨cs, ⟨k0, k1, k2⟩, k3, k4⟩ := h
  rintro b (h | h | h)
  · exact (k0.lt b h).1
  · exact (World.ownsRow.lt k1 b h).1
  · exact (k3.lt b h).1

/-- a game that grows in the box bg, its rows older or younger than the box; the result's box br is empty yet -/
def GSy (lo : Nat) (w0 wr : World) (br bg : Nat) (s0 s1 s2 : Value) (g : ParD) : Prop :=
  Below w0.heap.size w0 wr ∧ (w0.heap.size ≤ br ∧ br < lo ∧ lo ≤ bg ∧ lo ≤ wr.heap.size) ∧ Box wr br 33 #[.slice none 0 0, .slice none 0 0, .slice none 0 0] ∧ Box wr bg 33 #[s0, s1, s2] ∧ OPar wr lo s0 s1 s2 g
section
variable {lo br bg : Nat} {w0 wr w : World} {s0 s1 s2 t0 t1 t2 : Value} {g g' : ParD}
theorem GSy.below (h : GSy lo w0 wr br bg s0 s1 s2 g) : Below w0.heap.size w0 wr := h.1
theorem GSy.ord (h : GSy lo w0 wr br bg s0 s1 s2 g) : w0.heap.size ≤ br ∧ br < lo ∧ lo ≤ bg ∧ lo ≤ wr.heap.size := h.2.1
theorem GSy.zero (h : GSy lo w0 wr br bg s0 s1 s2 g) : Box wr br 33 #[.slice none 0 0, .slice none 0 0, .slice none 0 0] := h.2.2.1
theorem GSy.box (h : GSy lo w0 wr br bg s0 s1 s2 g) : Box wr bg 33 #[s0, s1, s2] := h.2.2.2.1
theorem GSy.own (h : GSy lo w0 wr br bg s0 s1 s2 g) : OPar wr lo s0 s1 s2 g := h.2.2.2.2
theorem GSy.move (h : GSy lo w0 wr br bg s0 s1 s2 g) (hb : Below wr.heap.size wr w) : GSy lo w0 w br bg s0 s1 s2 g :=
  ⟨below_then hb h.1.size h.1, ⟨h.ord.1, h.ord.2.1, h.ord.2.2.1, Nat.le_trans h.ord.2.2.2 hb.size⟩, h.zero.on hb, h.box.on hb, h.own.below hb⟩
theorem ne_par : 2 ≠ 33 := by decide
theorem ne_par2 : 27 ≠ 33 := by decide
theorem GSy.start (hw : Below w0.heap.size w0 w) (hb : w0.heap.size ≤ br) (hbr : br < lo) (hlo : lo ≤ w.heap.size) (hz : Box w br 33 #[.slice none 0 0, .slice none 0 0, .slice none 0 0]) (ho : OPar w lo s0 s1 s2 g) :
    GSy lo w0 (w.alloc (.cells #[s0, s1, s2] 33)) br w.heap.size s0 s1 s2 g := by
  have hba : Below w.heap.size w (w.alloc (.cells #[s0, s1, s2] 33)) := below_alloc (Nat.le_refl _) (Below.refl _ _)
  exact ⟨below_then hba hw.size hw, ⟨hb, hbr, hlo, Nat.le_trans hlo hba.size⟩, hz.alloc _, Box.new w 33 #[s0, s1, s2], ho.below hba⟩
theorem GSy.store {wz : World} (h : GSy lo w0 wr br bg s0 s1 s2 g) (hz : Below wr.heap.size wr wz) (hb : Below lo wz w) (hc : Chg (fun b => s0.ownBlock = some b ∨ s1.ownBlock = some b ∨ s2.ownBlock = some b) wz w) (ho : OPar w lo t0 t1 t2 g') :
    Box w bg 33 #[s0, s1, s2] ∧ GSy lo w0 (((w.setCell ⟨bg, 0, none⟩ t0).setCell ⟨bg, 1, none⟩ t1).setCell ⟨bg, 2, none⟩ t2) br bg t0 t1 t2 g' := by
  have h2 := h.move hz
  have od := h2.ord
  have bx : Box w bg 33 #[s0, s1, s2] := (hc.block bg h2.box.lt (h2.own.noBox h2.box ne_par ne_par2)).trans h2.box
  have ch := Chg.set3 w bg t0 t1 t2
  refine ⟨bx, ?_, ⟨od.1, od.2.1, od.2.2.1, by have := hb.size; have := ch.size; omega⟩, (h2.zero.below hb (by omega)).far3 (by omega) _ _ _, bx.set3 _ _ _, ho.chgBox bx ne_par ne_par2 ch⟩
  exact (h2.1.trans (hb.mono (by omega))).trans (ch.below (by have := hb.size; omega) (fun x hx => by omega))
theorem GSy.fin (h : GSy lo w0 wr br bg s0 s1 s2 g) : OPar (((wr.setCell ⟨br, 0, none⟩ s0).setCell ⟨br, 1, none⟩ s1).setCell ⟨br, 2, none⟩ s2) lo s0 s1 s2 g ∧
    Below w0.heap.size w0 (((wr.setCell ⟨br, 0, none⟩ s0).setCell ⟨br, 1, none⟩ s1).setCell ⟨br, 2, none⟩ s2) ∧
    Box (((wr.setCell ⟨br, 0, none⟩ s0).setCell ⟨br, 1, none⟩ s1).setCell ⟨br, 2, none⟩ s2) br 33 #[s0, s1, s2] := by
  have ch := Chg.set3 wr br s0 s1 s2
  have od := h.ord
  exact ⟨h.own.chg ch (fun x hx => by omega), h.1.trans (ch.below h.1.size (fun x hx => by omega)), h.zero.set3 _ _ _⟩
end


set_option maxRecDepth 100000 in
set_option maxHeartbeats 1600000 in
theorem implJoinedGame (s0 s1 s2 r0 r1 r2 : Value) (g h : ParD) (w : World) (B : Nat) (hB : B ≤ w.heap.size) (ha : RPv w s0 s1 s2 g) (hb : RPv w r0 r1 r2 h) :
    Calls Try.prog 34 #[.agg #[s0, s1, s2], .agg #[r0, r1, r2]] w fun e w' => ∃ t0 t1 t2, e = .returned (.tuple #[.agg #[t0, t1, t2], .bool (okJoin g h)]) ∧ OPar w' B t0 t1 t2 (joinG g h) ∧ Below B w w' := by
  have har := ha; have hbr := hb
  obtain ⟨A0, n0, c0, A1, n1, c1, A2, n2, c2, rfl, rfl, rfl⟩ := ha.form
  obtain ⟨C0, m0, d0, C1, m1, d1, C2, m2, d2, rfl, rfl, rfl⟩ := hb.form
  have hr := ha.ri; have hrr := ha.rii; have hrp := ha.rp
  have kr := hb.ri; have krr := hb.rii; have krp := hb.rp
  have b1 := hr.cap; have b2 := hr.top; have b3 := hrr.cap; have b4 := hrr.top; have b5 := hrp.cap; have b6 := hrp.top
  have e1 := kr.cap; have e2 := kr.top; have e3 := krr.cap; have e4 := krr.top; have e5 := krp.cap; have e6 := krp.top
  have HL := Lib.hid hr.len; have HM := Lib.hid hrr.len; have HP := Lib.hid hrp.len
  have KL := Lib.hid kr.len; have KM := Lib.hid krr.len; have KP := Lib.hid krp.len
  cases hp : parB g with
  | false =>
    have E := Lib.hid (join_par (h := h) hp)
    have E2 := Lib.hid (joinG_no E.out)
    have HPB := Lib.hid hp
    clear hp
    have hwL : Below w.heap.size w (((w.alloc (.cells #[.slice A0 n0 c0, .slice A1 n1 c1, .slice A2 n2 c2] 33)).alloc (.cells #[.slice C0 m0 d0, .slice C1 m1 d1, .slice C2 m2 d2] 33)).alloc (.cells #[.slice none 0 0, .slice none 0 0, .slice none 0 0] 33)) := below_alloc (Nat.le_refl _) (below_alloc (Nat.le_refl _) (below_alloc (Nat.le_refl _) (Below.refl _ _)))
    have bzL : Box (((w.alloc (.cells #[.slice A0 n0 c0, .slice A1 n1 c1, .slice A2 n2 c2] 33)).alloc (.cells #[.slice C0 m0 d0, .slice C1 m1 d1, .slice C2 m2 d2] 33)).alloc (.cells #[.slice none 0 0, .slice none 0 0, .slice none 0 0] 33)) (w.heap.size + 1 + 1) 33 #[.slice none 0 0, .slice none 0 0, .slice none 0 0] := Box.new' (by simp)
    have bxL := (((Box.new w 33 #[.slice A0 n0 c0, .slice A1 n1 c1, .slice A2 n2 c2]).alloc (.cells #[.slice C0 m0 d0, .slice C1 m1 d1, .slice C2 m2 d2] 33)).alloc (.cells #[.slice none 0 0, .slice none 0 0, .slice none 0 0] 33))
    have byL : Box (((w.alloc (.cells #[.slice A0 n0 c0, .slice A1 n1 c1, .slice A2 n2 c2] 33)).alloc (.cells #[.slice C0 m0 d0, .slice C1 m1 d1, .slice C2 m2 d2] 33)).alloc (.cells #[.slice none 0 0, .slice none 0 0, .slice none 0 0] 33)) (w.heap.size + 1) 33 #[.slice C0 m0 d0, .slice C1 m1 d1, .slice C2 m2 d2] := ((Box.new' (w := (w.alloc (.cells #[.slice A0 n0 c0, .slice A1 n1 c1, .slice A2 n2 c2] 33))) (t := 33) (cs := #[.slice C0 m0 d0, .slice C1 m1 d1, .slice C2 m2 d2]) (by simp)).alloc (.cells #[.slice none 0 0, .slice none 0 0, .slice none 0 0] 33))
    have hw3L : w.heap.size + 3 ≤ (((w.alloc (.cells #[.slice A0 n0 c0, .slice A1 n1 c1, .slice A2 n2 c2] 33)).alloc (.cells #[.slice C0 m0 d0, .slice C1 m1 d1, .slice C2 m2 d2] 33)).alloc (.cells #[.slice none 0 0, .slice none 0 0, .slice none 0 0] 33)).heap.size := by simp
    go_enter Try.func34, Try.ntmps34
    have q0 : (((w.alloc (.cells #[.slice A0 n0 c0, .slice A1 n1 c1, .slice A2 n2 c2] 33)).alloc (.cells #[.slice C0 m0 d0, .slice C1 m1 d1, .slice C2 m2 d2] 33)).alloc (.cells #[.slice none 0 0, .slice none 0 0, .slice none 0 0] 33)).cell? ⟨w.heap.size, 0, none⟩ = some (.slice A0 n0 c0) := bxL.cell 0
    have q1 : (((w.alloc (.cells #[.slice A0 n0 c0, .slice A1 n1 c1, .slice A2 n2 c2] 33)).alloc (.cells #[.slice C0 m0 d0, .slice C1 m1 d1, .slice C2 m2 d2] 33)).alloc (.cells #[.slice none 0 0, .slice none 0 0, .slice none 0 0] 33)).cell? ⟨w.heap.size, 1, none⟩ = some (.slice A1 n1 c1) := bxL.cell 1
    have q2 : (((w.alloc (.cells #[.slice A0 n0 c0, .slice A1 n1 c1, .slice A2 n2 c2] 33)).alloc (.cells #[.slice C0 m0 d0, .slice C1 m1 d1, .slice C2 m2 d2] 33)).alloc (.cells #[.slice none 0 0, .slice none 0 0, .slice none 0 0] 33)).cell? ⟨w.heap.size, 2, none⟩ = some (.slice A2 n2 c2) := bxL.cell 2
    have p0 : (((w.alloc (.cells #[.slice A0 n0 c0, .slice A1 n1 c1, .slice A2 n2 c2] 33)).alloc (.cells #[.slice C0 m0 d0, .slice C1 m1 d1, .slice C2 m2 d2] 33)).alloc (.cells #[.slice none 0 0, .slice none 0 0, .slice none 0 0] 33)).cell? ⟨w.heap.size + 1, 0, none⟩ = some (.slice C0 m0 d0) := byL.cell 0
    have p1 : (((w.alloc (.cells #[.slice A0 n0 c0, .slice A1 n1 c1, .slice A2 n2 c2] 33)).alloc (.cells #[.slice C0 m0 d0, .slice C1 m1 d1, .slice C2 m2 d2] 33)).alloc (.cells #[.slice none 0 0, .slice none 0 0, .slice none 0 0] 33)).cell? ⟨w.heap.size + 1, 1, none⟩ = some (.slice C1 m1 d1) := byL.cell 1
    have p2 : (((w.alloc (.cells #[.slice A0 n0 c0, .slice A1 n1 c1, .slice A2 n2 c2] 33)).alloc (.cells #[.slice C0 m0 d0, .slice C1 m1 d1, .slice C2 m2 d2] 33)).alloc (.cells #[.slice none 0 0, .slice none 0 0, .slice none 0 0] 33)).cell? ⟨w.heap.size + 1, 2, none⟩ = some (.slice C2 m2 d2) := byL.cell 2
    go_wp2_with fail
    refine (implParityOk _ _ _ g _ _ (Nat.le_refl _) (har.keep (keeps_below hwL))).mono ?_; rintro e w1 ⟨rfl, hb1⟩
    rw [HPB.out]
    replace hw3L := Nat.le_trans hw3L hb1.size; replace hwL := below_then hb1 hwL.size hwL; replace bzL := bzL.on hb1; replace bxL := bxL.on hb1; replace byL := byL.on hb1
    clear q0 q1 q2 p0 p1 p2 hb1
    obtain ⟨hwZ, bxZ⟩ := zero3 hwL (by omega) bzL (.slice none 0 0) (.slice none 0 0) (.slice none 0 0)
    have z0 := bzL.cell 0; have z1 := bzL.cell 1; have z2 := bzL.cell 2; have f0 := bzL.hot 0; have f1 := bzL.hot 1; have f2 := bzL.hot 2
    simp only [List.getElem?_toArray, List.getElem?_cons_zero, List.getElem?_cons_succ] at z0 z1 z2
    have R0 := bxZ.cell 0; have R1 := bxZ.cell 1; have R2 := bxZ.cell 2
    simp only [List.getElem?_toArray, List.getElem?_cons_zero, List.getElem?_cons_succ] at R0 R1 R2
    go_wp2
    exact bodyPost_ret (v := .tuple #[.agg #[.slice none 0 0, .slice none 0 0, .slice none 0 0], .bool false]) (by simp [results, Try.results34, go_sem, R0, R1, R2]) rfl ⟨_, _, _, by rw [E.out], by rw [E2.out]; exact OPar.nil _ _, hwZ.mono hB⟩
  | true =>
    have HPB := Lib.hid hp
    have hf := finePar_of hp
    have hn0 := hf.1.2.1; have hn1 := hf.1.2.2.1; have hn2 := hf.2.1
    rw [HL.out] at hn0 hn1 hn2
    rw [HM.out] at hn1
    rw [HP.out] at hn2
    have HF := Lib.hid hf
    have H10 := Lib.hid hn1; have H20 := Lib.hid hn2
    have hq1 : n1 ≤ 256 := by omega
    have hq2 : n2 ≤ 256 := by omega
    clear hf hn1 hn2
    clear hp
    cases hp2 : parB h with
    | false =>
      have E := Lib.hid (join_par2 (g := g) hp2)
      have E2 := Lib.hid (joinG_no E.out)
      have HPB2 := Lib.hid hp2
      clear hp2
      have hwL : Below w.heap.size w (((w.alloc (.cells #[.slice A0 n0 c0, .slice A1 n1 c1, .slice A2 n2 c2] 33)).alloc (.cells #[.slice C0 m0 d0, .slice C1 m1 d1, .slice C2 m2 d2] 33)).alloc (.cells #[.slice none 0 0, .slice none 0 0, .slice none 0 0] 33)) := below_alloc (Nat.le_refl _) (below_alloc (Nat.le_refl _) (below_alloc (Nat.le_refl _) (Below.refl _ _)))
      have bzL : Box (((w.alloc (.cells #[.slice A0 n0 c0, .slice A1 n1 c1, .slice A2 n2 c2] 33)).alloc (.cells #[.slice C0 m0 d0, .slice C1 m1 d1, .slice C2 m2 d2] 33)).alloc (.cells #[.slice none 0 0, .slice none 0 0, .slice none 0 0] 33)) (w.heap.size + 1 + 1) 33 #[.slice none 0 0, .slice none 0 0, .slice none 0 0] := Box.new' (by simp)
      have bxL := (((Box.new w 33 #[.slice A0 n0 c0, .slice A1 n1 c1, .slice A2 n2 c2]).alloc (.cells #[.slice C0 m0 d0, .slice C1 m1 d1, .slice C2 m2 d2] 33)).alloc (.cells #[.slice none 0 0, .slice none 0 0, .slice none 0 0] 33))
      have byL : Box (((w.alloc (.cells #[.slice A0 n0 c0, .slice A1 n1 c1, .slice A2 n2 c2] 33)).alloc (.cells #[.slice C0 m0 d0, .slice C1 m1 d1, .slice C2 m2 d2] 33)).alloc (.cells #[.slice none 0 0, .slice none 0 0, .slice none 0 0] 33)) (w.heap.size + 1) 33 #[.slice C0 m0 d0, .slice C1 m1 d1, .slice C2 m2 d2] := ((Box.new' (w := (w.alloc (.cells #[.slice A0 n0 c0, .slice A1 n1 c1, .slice A2 n2 c2] 33))) (t := 33) (cs := #[.slice C0 m0 d0, .slice C1 m1 d1, .slice C2 m2 d2]) (by simp)).alloc (.cells #[.slice none 0 0, .slice none 0 0, .slice none 0 0] 33))
      have hw3L : w.heap.size + 3 ≤ (((w.alloc (.cells #[.slice A0 n0 c0, .slice A1 n1 c1, .slice A2 n2 c2] 33)).alloc (.cells #[.slice C0 m0 d0, .slice C1 m1 d1, .slice C2 m2 d2] 33)).alloc (.cells #[.slice none 0 0, .slice none 0 0, .slice none 0 0] 33)).heap.size := by simp
      go_enter Try.func34, Try.ntmps34
      have q0 : (((w.alloc (.cells #[.slice A0 n0 c0, .slice A1 n1 c1, .slice A2 n2 c2] 33)).alloc (.cells #[.slice C0 m0 d0, .slice C1 m1 d1, .slice C2 m2 d2] 33)).alloc (.cells #[.slice none 0 0, .slice none 0 0, .slice none 0 0] 33)).cell? ⟨w.heap.size, 0, none⟩ = some (.slice A0 n0 c0) := bxL.cell 0
      have q1 : (((w.alloc (.cells #[.slice A0 n0 c0, .slice A1 n1 c1, .slice A2 n2 c2] 33)).alloc (.cells #[.slice C0 m0 d0, .slice C1 m1 d1, .slice C2 m2 d2] 33)).alloc (.cells #[.slice none 0 0, .slice none 0 0, .slice none 0 0] 33)).cell? ⟨w.heap.size, 1, none⟩ = some (.slice A1 n1 c1) := bxL.cell 1
      have q2 : (((w.alloc (.cells #[.slice A0 n0 c0, .slice A1 n1 c1, .slice A2 n2 c2] 33)).alloc (.cells #[.slice C0 m0 d0, .slice C1 m1 d1, .slice C2 m2 d2] 33)).alloc (.cells #[.slice none 0 0, .slice none 0 0, .slice none 0 0] 33)).cell? ⟨w.heap.size, 2, none⟩ = some (.slice A2 n2 c2) := bxL.cell 2
      have p0 : (((w.alloc (.cells #[.slice A0 n0 c0, .slice A1 n1 c1, .slice A2 n2 c2] 33)).alloc (.cells #[.slice C0 m0 d0, .slice C1 m1 d1, .slice C2 m2 d2] 33)).alloc (.cells #[.slice none 0 0, .slice none 0 0, .slice none 0 0] 33)).cell? ⟨w.heap.size + 1, 0, none⟩ = some (.slice C0 m0 d0) := byL.cell 0
      have p1 : (((w.alloc (.cells #[.slice A0 n0 c0, .slice A1 n1 c1, .slice A2 n2 c2] 33)).alloc (.cells #[.slice C0 m0 d0, .slice C1 m1 d1, .slice C2 m2 d2] 33)).alloc (.cells #[.slice none 0 0, .slice none 0 0, .slice none 0 0] 33)).cell? ⟨w.heap.size + 1, 1, none⟩ = some (.slice C1 m1 d1) := byL.cell 1
      have p2 : (((w.alloc (.cells #[.slice A0 n0 c0, .slice A1 n1 c1, .slice A2 n2 c2] 33)).alloc (.cells #[.slice C0 m0 d0, .slice C1 m1 d1, .slice C2 m2 d2] 33)).alloc (.cells #[.slice none 0 0, .slice none 0 0, .slice none 0 0] 33)).cell? ⟨w.heap.size + 1, 2, none⟩ = some (.slice C2 m2 d2) := byL.cell 2
      go_wp2_with fail
      refine (implParityOk _ _ _ g _ _ (Nat.le_refl _) (har.keep (keeps_below hwL))).mono ?_; rintro e w1 ⟨rfl, hb1⟩
      rw [HPB.out]
      replace hw3L := Nat.le_trans hw3L hb1.size; replace hwL := below_then hb1 hwL.size hwL; replace bzL := bzL.on hb1; replace bxL := bxL.on hb1; replace byL := byL.on hb1
      clear q0 q1 q2 p0 p1 p2 hb1
      have q0 : w1.cell? ⟨w.heap.size, 0, none⟩ = some (.slice A0 n0 c0) := bxL.cell 0
      have q1 : w1.cell? ⟨w.heap.size, 1, none⟩ = some (.slice A1 n1 c1) := bxL.cell 1
      have q2 : w1.cell? ⟨w.heap.size, 2, none⟩ = some (.slice A2 n2 c2) := bxL.cell 2
      have p0 : w1.cell? ⟨w.heap.size + 1, 0, none⟩ = some (.slice C0 m0 d0) := byL.cell 0
      have p1 : w1.cell? ⟨w.heap.size + 1, 1, none⟩ = some (.slice C1 m1 d1) := byL.cell 1
      have p2 : w1.cell? ⟨w.heap.size + 1, 2, none⟩ = some (.slice C2 m2 d2) := byL.cell 2
      go_wp2_with fail
      refine (implParityOk _ _ _ h _ _ (Nat.le_refl _) (hbr.keep (keeps_below hwL))).mono ?_; rintro e w2 ⟨rfl, hb2⟩
      rw [HPB2.out]
      replace hw3L := Nat.le_trans hw3L hb2.size; replace hwL := below_then hb2 hwL.size hwL; replace bzL := bzL.on hb2; replace bxL := bxL.on hb2; replace byL := byL.on hb2
      clear q0 q1 q2 p0 p1 p2 hb2
      have q0 : w2.cell? ⟨w.heap.size, 0, none⟩ = some (.slice A0 n0 c0) := bxL.cell 0
      have q1 : w2.cell? ⟨w.heap.size, 1, none⟩ = some (.slice A1 n1 c1) := bxL.cell 1
      have q2 : w2.cell? ⟨w.heap.size, 2, none⟩ = some (.slice A2 n2 c2) := bxL.cell 2
      have p0 : w2.cell? ⟨w.heap.size + 1, 0, none⟩ = some (.slice C0 m0 d0) := byL.cell 0
      have p1 : w2.cell? ⟨w.heap.size + 1, 1, none⟩ = some (.slice C1 m1 d1) := byL.cell 1
      have p2 : w2.cell? ⟨w.heap.size + 1, 2, none⟩ = some (.slice C2 m2 d2) := byL.cell 2
      obtain ⟨hwZ, bxZ⟩ := zero3 hwL (by omega) bzL (.slice none 0 0) (.slice none 0 0) (.slice none 0 0)
      have z0 := bzL.cell 0; have z1 := bzL.cell 1; have z2 := bzL.cell 2; have f0 := bzL.hot 0; have f1 := bzL.hot 1; have f2 := bzL.hot 2
      simp only [List.getElem?_toArray, List.getElem?_cons_zero, List.getElem?_cons_succ] at z0 z1 z2
      have R0 := bxZ.cell 0; have R1 := bxZ.cell 1; have R2 := bxZ.cell 2
      simp only [List.getElem?_toArray, List.getElem?_cons_zero, List.getElem?_cons_succ] at R0 R1 R2
      go_wp2
      exact bodyPost_ret (v := .tuple #[.agg #[.slice none 0 0, .slice none 0 0, .slice none 0 0], .bool false]) (by simp [results, Try.results34, go_sem, R0, R1, R2]) rfl ⟨_, _, _, by rw [E.out], by rw [E2.out]; exact OPar.nil _ _, hwZ.mono hB⟩
    | true =>
      have HPB2 := Lib.hid hp2
      have hf := finePar_of hp2
      have hm0 := hf.1.2.1; have hm1 := hf.1.2.2.1; have hm2 := hf.2.1
      rw [KL.out] at hm0 hm1 hm2
      rw [KM.out] at hm1
      rw [KP.out] at hm2
      have KF := Lib.hid hf
      have K10 := Lib.hid hm1; have K20 := Lib.hid hm2
      have hs1 : m1 ≤ 256 := by omega
      have hs2 : m2 ≤ 256 := by omega
      clear hf hm1 hm2
      clear hp2
      by_cases hle : n2 + m2 ≤ 256
      · have HLE := Lib.hid hle
        have hgt : ¬ (256 : Int) < (n2 : Int) + (m2 : Int) := by omega
        have hwL : Below w.heap.size w (((w.alloc (.cells #[.slice A0 n0 c0, .slice A1 n1 c1, .slice A2 n2 c2] 33)).alloc (.cells #[.slice C0 m0 d0, .slice C1 m1 d1, .slice C2 m2 d2] 33)).alloc (.cells #[.slice none 0 0, .slice none 0 0, .slice none 0 0] 33)) := below_alloc (Nat.le_refl _) (below_alloc (Nat.le_refl _) (below_alloc (Nat.le_refl _) (Below.refl _ _)))
        have bzL : Box (((w.alloc (.cells #[.slice A0 n0 c0, .slice A1 n1 c1, .slice A2 n2 c2] 33)).alloc (.cells #[.slice C0 m0 d0, .slice C1 m1 d1, .slice C2 m2 d2] 33)).alloc (.cells #[.slice none 0 0, .slice none 0 0, .slice none 0 0] 33)) (w.heap.size + 1 + 1) 33 #[.slice none 0 0, .slice none 0 0, .slice none 0 0] := Box.new' (by simp)
        have bxL := (((Box.new w 33 #[.slice A0 n0 c0, .slice A1 n1 c1, .slice A2 n2 c2]).alloc (.cells #[.slice C0 m0 d0, .slice C1 m1 d1, .slice C2 m2 d2] 33)).alloc (.cells #[.slice none 0 0, .slice none 0 0, .slice none 0 0] 33))
        have byL : Box (((w.alloc (.cells #[.slice A0 n0 c0, .slice A1 n1 c1, .slice A2 n2 c2] 33)).alloc (.cells #[.slice C0 m0 d0, .slice C1 m1 d1, .slice C2 m2 d2] 33)).alloc (.cells #[.slice none 0 0, .slice none 0 0, .slice none 0 0] 33)) (w.heap.size + 1) 33 #[.slice C0 m0 d0, .slice C1 m1 d1, .slice C2 m2 d2] := ((Box.new' (w := (w.alloc (.cells #[.slice A0 n0 c0, .slice A1 n1 c1, .slice A2 n2 c2] 33))) (t := 33) (cs := #[.slice C0 m0 d0, .slice C1 m1 d1, .slice C2 m2 d2]) (by simp)).alloc (.cells #[.slice none 0 0, .slice none 0 0, .slice none 0 0] 33))
        have hw3L : w.heap.size + 3 ≤ (((w.alloc (.cells #[.slice A0 n0 c0, .slice A1 n1 c1, .slice A2 n2 c2] 33)).alloc (.cells #[.slice C0 m0 d0, .slice C1 m1 d1, .slice C2 m2 d2] 33)).alloc (.cells #[.slice none 0 0, .slice none 0 0, .slice none 0 0] 33)).heap.size := by simp
        go_enter Try.func34, Try.ntmps34
        have q0 : (((w.alloc (.cells #[.slice A0 n0 c0, .slice A1 n1 c1, .slice A2 n2 c2] 33)).alloc (.cells #[.slice C0 m0 d0, .slice C1 m1 d1, .slice C2 m2 d2] 33)).alloc (.cells #[.slice none 0 0, .slice none 0 0, .slice none 0 0] 33)).cell? ⟨w.heap.size, 0, none⟩ = some (.slice A0 n0 c0) := bxL.cell 0
        have q1 : (((w.alloc (.cells #[.slice A0 n0 c0, .slice A1 n1 c1, .slice A2 n2 c2] 33)).alloc (.cells #[.slice C0 m0 d0, .slice C1 m1 d1, .slice C2 m2 d2] 33)).alloc (.cells #[.slice none 0 0, .slice none 0 0, .slice none 0 0] 33)).cell? ⟨w.heap.size, 1, none⟩ = some (.slice A1 n1 c1) := bxL.cell 1
        have q2 : (((w.alloc (.cells #[.slice A0 n0 c0, .slice A1 n1 c1, .slice A2 n2 c2] 33)).alloc (.cells #[.slice C0 m0 d0, .slice C1 m1 d1, .slice C2 m2 d2] 33)).alloc (.cells #[.slice none 0 0, .slice none 0 0, .slice none 0 0] 33)).cell? ⟨w.heap.size, 2, none⟩ = some (.slice A2 n2 c2) := bxL.cell 2
        have p0 : (((w.alloc (.cells #[.slice A0 n0 c0, .slice A1 n1 c1, .slice A2 n2 c2] 33)).alloc (.cells #[.slice C0 m0 d0, .slice C1 m1 d1, .slice C2 m2 d2] 33)).alloc (.cells #[.slice none 0 0, .slice none 0 0, .slice none 0 0] 33)).cell? ⟨w.heap.size + 1, 0, none⟩ = some (.slice C0 m0 d0) := byL.cell 0
        have p1 : (((w.alloc (.cells #[.slice A0 n0 c0, .slice A1 n1 c1, .slice A2 n2 c2] 33)).alloc (.cells #[.slice C0 m0 d0, .slice C1 m1 d1, .slice C2 m2 d2] 33)).alloc (.cells #[.slice none 0 0, .slice none 0 0, .slice none 0 0] 33)).cell? ⟨w.heap.size + 1, 1, none⟩ = some (.slice C1 m1 d1) := byL.cell 1
        have p2 : (((w.alloc (.cells #[.slice A0 n0 c0, .slice A1 n1 c1, .slice A2 n2 c2] 33)).alloc (.cells #[.slice C0 m0 d0, .slice C1 m1 d1, .slice C2 m2 d2] 33)).alloc (.cells #[.slice none 0 0, .slice none 0 0, .slice none 0 0] 33)).cell? ⟨w.heap.size + 1, 2, none⟩ = some (.slice C2 m2 d2) := byL.cell 2
        go_wp2_with fail
        refine (implParityOk _ _ _ g _ _ (Nat.le_refl _) (har.keep (keeps_below hwL))).mono ?_; rintro e w1 ⟨rfl, hb1⟩
        rw [HPB.out]
        replace hw3L := Nat.le_trans hw3L hb1.size; replace hwL := below_then hb1 hwL.size hwL; replace bzL := bzL.on hb1; replace bxL := bxL.on hb1; replace byL := byL.on hb1
        clear q0 q1 q2 p0 p1 p2 hb1
        have q0 : w1.cell? ⟨w.heap.size, 0, none⟩ = some (.slice A0 n0 c0) := bxL.cell 0
        have q1 : w1.cell? ⟨w.heap.size, 1, none⟩ = some (.slice A1 n1 c1) := bxL.cell 1
        have q2 : w1.cell? ⟨w.heap.size, 2, none⟩ = some (.slice A2 n2 c2) := bxL.cell 2
        have p0 : w1.cell? ⟨w.heap.size + 1, 0, none⟩ = some (.slice C0 m0 d0) := byL.cell 0
        have p1 : w1.cell? ⟨w.heap.size + 1, 1, none⟩ = some (.slice C1 m1 d1) := byL.cell 1
        have p2 : w1.cell? ⟨w.heap.size + 1, 2, none⟩ = some (.slice C2 m2 d2) := byL.cell 2
        go_wp2_with fail
        refine (implParityOk _ _ _ h _ _ (Nat.le_refl _) (hbr.keep (keeps_below hwL))).mono ?_; rintro e w2 ⟨rfl, hb2⟩
        rw [HPB2.out]
        replace hw3L := Nat.le_trans hw3L hb2.size; replace hwL := below_then hb2 hwL.size hwL; replace bzL := bzL.on hb2; replace bxL := bxL.on hb2; replace byL := byL.on hb2
        clear q0 q1 q2 p0 p1 p2 hb2
        have q0 : w2.cell? ⟨w.heap.size, 0, none⟩ = some (.slice A0 n0 c0) := bxL.cell 0
        have q1 : w2.cell? ⟨w.heap.size, 1, none⟩ = some (.slice A1 n1 c1) := bxL.cell 1
        have q2 : w2.cell? ⟨w.heap.size, 2, none⟩ = some (.slice A2 n2 c2) := bxL.cell 2
        have p0 : w2.cell? ⟨w.heap.size + 1, 0, none⟩ = some (.slice C0 m0 d0) := byL.cell 0
        have p1 : w2.cell? ⟨w.heap.size + 1, 1, none⟩ = some (.slice C1 m1 d1) := byL.cell 1
        have p2 : w2.cell? ⟨w.heap.size + 1, 2, none⟩ = some (.slice C2 m2 d2) := byL.cell 2
        go_wp2_with fail
        refine (copyParity _ _ _ g _ _ (Nat.le_refl _) (har.keep (keeps_below hwL)) HF.out).mono ?_; rintro e w3 ⟨u0, u1, u2, rfl, ho3, hb3⟩
        obtain ⟨U0, v0, U1, v1, U2, v2, rfl, rfl, rfl⟩ := ho3.form
        have hw3 := below_then hb3 hwL.size hwL
        have hz3 := hb3.size
        have hG := GSy.start (br := w.heap.size + 1 + 1) hw3 (by omega) (by omega) hz3 (bzL.on hb3) ho3
        have hbs : Below w3.heap.size w3 (w3.alloc (.cells #[.slice U0 g.1.length v0, .slice U1 g.2.1.length v1, .slice U2 g.2.2.length v2] 33)) := below_alloc (Nat.le_refl _) (Below.refl _ _)
        replace bxL := (bxL.on hb3).on hbs
        replace byL := (byL.on hb3).on hbs
        clear q0 q1 q2 p0 p1 p2 hw3 bzL hwL ho3 hb3
        have q0 : (w3.alloc (.cells #[.slice U0 g.1.length v0, .slice U1 g.2.1.length v1, .slice U2 g.2.2.length v2] 33)).cell? ⟨w.heap.size, 0, none⟩ = some (.slice A0 n0 c0) := bxL.cell 0
        have q1 : (w3.alloc (.cells #[.slice U0 g.1.length v0, .slice U1 g.2.1.length v1, .slice U2 g.2.2.length v2] 33)).cell? ⟨w.heap.size, 1, none⟩ = some (.slice A1 n1 c1) := bxL.cell 1
        have q2 : (w3.alloc (.cells #[.slice U0 g.1.length v0, .slice U1 g.2.1.length v1, .slice U2 g.2.2.length v2] 33)).cell? ⟨w.heap.size, 2, none⟩ = some (.slice A2 n2 c2) := bxL.cell 2
        have p0 : (w3.alloc (.cells #[.slice U0 g.1.length v0, .slice U1 g.2.1.length v1, .slice U2 g.2.2.length v2] 33)).cell? ⟨w.heap.size + 1, 0, none⟩ = some (.slice C0 m0 d0) := byL.cell 0
        have p1 : (w3.alloc (.cells #[.slice U0 g.1.length v0, .slice U1 g.2.1.length v1, .slice U2 g.2.2.length v2] 33)).cell? ⟨w.heap.size + 1, 1, none⟩ = some (.slice C1 m1 d1) := byL.cell 1
        have p2 : (w3.alloc (.cells #[.slice U0 g.1.length v0, .slice U1 g.2.1.length v1, .slice U2 g.2.2.length v2] 33)).cell? ⟨w.heap.size + 1, 2, none⟩ = some (.slice C2 m2 d2) := byL.cell 2
        have hG0 : GSy w2.heap.size w (w3.alloc (.cells #[.slice U0 g.1.length v0, .slice U1 g.2.1.length v1, .slice U2 g.2.2.length v2] 33)) (w.heap.size + 1 + 1) w3.heap.size (.slice U0 g.1.length v0) (.slice U1 g.2.1.length v1) (.slice U2 g.2.2.length v2) (joinUp g h 0) := by rw [joinUp_zero]; exact hG
        clear hG
        go_wp2
        clear q0 q1 q2 p0 p1 p2
        have hb3s : w3.heap.size + 1 = (w3.alloc (.cells #[.slice U0 g.1.length v0, .slice U1 g.2.1.length v1, .slice U2 g.2.2.length v2] 33)).heap.size := by simp
        have hle3 : w.heap.size + 3 ≤ w3.heap.size := by omega
        generalize (w3.alloc (.cells #[.slice U0 g.1.length v0, .slice U1 g.2.1.length v1, .slice U2 g.2.2.length v2] 33)) = wX at *
        generalize w3.heap.size = bg at *
        generalize w2.heap.size = lo at *
        go_loopw [37] (fun i wr => ∃ (k : Nat) (u0 u1 u2 : Value), k ≤ m1 ∧ i = .int .i64 k ∧ GSy lo w wr (w.heap.size + 1 + 1) bg u0 u1 u2 (joinUp g h k) ∧ Box wr w.heap.size 33 #[.slice A0 n0 c0, .slice A1 n1 c1, .slice A2 n2 c2] ∧ Box wr (w.heap.size + 1) 33 #[.slice C0 m0 d0, .slice C1 m1 d1, .slice C2 m2 d2]) (fun i _ => m1 - (intOf i).toNat)
        case atStart => exact ⟨0, _, _, _, Nat.zero_le _, rfl, hG0, bxL, byL⟩
        case round =>
          clear hG0 bxL byL hbs hb3s
          obtain ⟨k, u0, u1, u2, hk2, rfl, hG, hX, hY⟩ := hrel
          have hwr := hG.below
          have hord := hG.ord
          have q0 : wr.cell? ⟨w.heap.size, 0, none⟩ = some (.slice A0 n0 c0) := hX.cell 0
          have q1 : wr.cell? ⟨w.heap.size, 1, none⟩ = some (.slice A1 n1 c1) := hX.cell 1
          have q2 : wr.cell? ⟨w.heap.size, 2, none⟩ = some (.slice A2 n2 c2) := hX.cell 2
          have p0 : wr.cell? ⟨w.heap.size + 1, 0, none⟩ = some (.slice C0 m0 d0) := hY.cell 0
          have p1 : wr.cell? ⟨w.heap.size + 1, 1, none⟩ = some (.slice C1 m1 d1) := hY.cell 1
          have p2 : wr.cell? ⟨w.heap.size + 1, 2, none⟩ = some (.slice C2 m2 d2) := hY.cell 2
          by_cases hlt : k < m1
          · have hlt0 : k < m0 := by have := K10.out; omega
            have hlt2 : k < m2 := by have := K10.out; have := K20.out; omega
            obtain ⟨bo, oo, rfl, hco⟩ := kr.at_ hlt0
            obtain ⟨bn, on, An, nn, cn, rfl, hcn, rn⟩ := krr.at_ hlt
            obtain ⟨bp, op, rfl, hcp⟩ := krp.at_ hlt2
            have lo_ := cell_lt hco; have ln_ := cell_lt hcn; have lp_ := cell_lt hcp
            have ko := below_cell hwr hco; have kn := below_cell hwr hcn; have kp := below_cell hwr hcp
            have hki : (k : Int) < (m0 : Int) := by omega
            have hki1 : (k : Int) < (m1 : Int) := by omega
            have hki2 : (k : Int) < (m2 : Int) := by omega
            have hk0 : (0 : Int) ≤ (k : Int) := by omega
            have HRL := Lib.hid rn.len
            have hb1 := rn.cap; have hb2 := rn.top
            have hnn : nn ≤ 1048576 := by
              have := (KF.out.1.2.2.2 k (by rw [KL.out]; exact hlt0)).2.1.2
              rw [rn.len] at this; omega
            have hpn : ∀ j, j < nn → 0 ≤ gi (gl h.2.1 k) j ∧ gi (gl h.2.1 k) j ≤ 256 := fun j hj => by
              have h1 := setB_true.1 (KF.out.1.2.2.2 k (by rw [KL.out]; exact hlt0)).2.2 j (by rw [HRL.out]; exact hj)
              have h2 := h1.1; have h3 := h1.2.1
              rw [KL.out] at h3
              omega
            have HPN := Lib.hid hpn
            clear hpn
            obtain ⟨U0, v0, U1, v1, U2, v2, rfl, rfl, rfl⟩ := hG.own.form
            have HN := Lib.hid (joinUp_succ (g := g) (h := h) (k := k) (by rw [KL.out]; exact hlt0) (by rw [KM.out]; exact hlt) (by rw [KP.out]; exact hlt2))
            generalize wr = wo at *
            have hem := OI.empty (E := 2) (w := wo) (B := wo.heap.size) (Nat.le_refl _)
            have hbl : Below wo.heap.size wo (wo.alloc (.cells #[] 2)) := below_alloc (Nat.le_refl _) (Below.refl _ _)
            go_wp2
            go_loopw [9, 45] (fun v i wr => ∃ j : Nat, j ≤ nn ∧ i = .int .i64 j ∧ OI 2 wr wo.heap.size v (shift n0 ((gl h.2.1 k).take j)) ∧ Below wo.heap.size wo wr) (fun _ i _ => nn - (intOf i).toNat)
            case atStart => exact ⟨0, Nat.zero_le _, rfl, by simpa [shift] using hem, hbl⟩
            case round =>
              clear hem hbl
              obtain ⟨j, hj, rfl, hov, hbq⟩ := hrel
              have hlv : (shift n0 ((gl h.2.1 k).take j)).length ≤ 1048576 := by rw [shift_len, List.length_take]; omega
              have hwq := below_then hbq hwr.size hwr
              have hsq := hbq.size
              have hXq := hX.on hbq; have hYq := hY.on hbq; have hGq := hG.move hbq
              have q0 : wr.cell? ⟨w.heap.size, 0, none⟩ = some (.slice A0 n0 c0) := hXq.cell 0
              have q1 : wr.cell? ⟨w.heap.size, 1, none⟩ = some (.slice A1 n1 c1) := hXq.cell 1
              have q2 : wr.cell? ⟨w.heap.size, 2, none⟩ = some (.slice A2 n2 c2) := hXq.cell 2
              have p0 : wr.cell? ⟨w.heap.size + 1, 0, none⟩ = some (.slice (some ⟨bo, oo, none⟩) m0 d0) := hYq.cell 0
              have p1 : wr.cell? ⟨w.heap.size + 1, 1, none⟩ = some (.slice (some ⟨bn, on, none⟩) m1 d1) := hYq.cell 1
              have p2 : wr.cell? ⟨w.heap.size + 1, 2, none⟩ = some (.slice (some ⟨bp, op, none⟩) m2 d2) := hYq.cell 2
              have ko := below_cell hwq hco; have kn := below_cell hwq hcn; have kp := below_cell hwq hcp
              by_cases hlj : j < nn
              · obtain ⟨br', or', rfl, hcr⟩ := rn.at_ hlj
                have kr' := below_cell hwq hcr
                have hpp := HPN.out j hlj
                have hp1 := hpp.1; have hp2 := hpp.2
                have hji : (j : Int) < (nn : Int) := by omega
                have hj0 : (0 : Int) ≤ (j : Int) := by omega
                have e7 : IntKind.i64.wrap (gi (gl h.2.1 k) j + (n0 : Int)) = gi (gl h.2.1 k) j + (n0 : Int) := IntWalk.i64_in _ (by omega)
                have HX := Lib.hid (shift_take (d := n0) (xs := gl h.2.1 k) (k := j) (by rw [HRL.out]; exact hlj))
                clear hpp
                go_wp2_with fail
                refine (implSize _ _ _ _ _ _ _ _ (Nat.le_refl _) (by omega)).mono ?_; rintro e w5 ⟨rfl, hb5⟩
                replace hov := hov.below hb5
                have hbq5 := below_then hb5 hbq.size hbq
                have hsq5 := hbq5.size
                go_wp2_with (at_builtin; refine wpList_pushI rfl (.tmp 49) (.tmp 55) rfl _ wo.heap.size u9 (shift n0 ((gl h.2.1 k).take j)) (by rfl) hov _ (by rfl) (by omega) hsq5 ?_; intro v2 w2 ho2 hb2 hc2 hat2)
                go_wp2
                go_roundw
                case rel => exact ⟨j + 1, by omega, by go_num, by rw [HX.out]; exact ho2, hbq5.trans hb2⟩
                case measure => simp [intOf]; omega
              · obtain rfl : nn = j := by omega
                have HRW := Lib.hid (show shift n0 ((gl h.2.1 k).take nn) = shift g.2.2.length (gl h.2.1 k) by rw [List.take_of_length_le (by rw [HRL.out]; omega), HP.out, H20.out])
                rw [HRW.out] at hov
                obtain ⟨Av, cv, rfl⟩ := hov.form
                have g0 : wr.cell? ⟨bg, 0, none⟩ = some (.slice U0 (joinUp g h k).1.length v0) := hGq.box.cell 0
                have g1 : wr.cell? ⟨bg, 1, none⟩ = some (.slice U1 (joinUp g h k).2.1.length v1) := hGq.box.cell 1
                have g2 : wr.cell? ⟨bg, 2, none⟩ = some (.slice U2 (joinUp g h k).2.2.length v2) := hGq.box.cell 2
                go_wp2_with fail
                go_still_tail 13, (by kernel_rfl)
                change wpList _ _ _ _ _ wr.drew
                replace hov := hov.drew
                replace hbq : Below wo.heap.size wo wr.drew := Below.drew hbq
                clear g0 g1 g2 q0 q1 q2 p0 p1 p2 ko kn kp hwq hsq hGq hXq hYq
                generalize wr.drew = wz at *
                go_wp2_with fail
                refine (withVertexC _ _ _ _ _ _ _ _ wo _ lo hord.2.2.2 hG.own hbq hov (joinUp_small HF.out (by omega))).mono ?_
                rintro e wd ⟨t0, t1, t2, rfl, hod, hbd, hcd⟩
                obtain ⟨T0, d0', T1, d1', T2, d2', rfl, rfl, rfl⟩ := hod.form
                obtain ⟨k2, hG4⟩ := hG.store hbq hbd hcd hod
                have hX3 := (hX.on hbq).below hbd (by omega)
                have hY3 := (hY.on hbq).below hbd (by omega)
                have m0' := k2.hot 0
                have m1' := k2.hot 1
                have m2' := k2.hot 2
                have r0 : wd.cell? ⟨bg, 0, none⟩ = some (.slice U0 (joinUp g h k).1.length v0) := k2.cell 0
                have r1 : wd.cell? ⟨bg, 1, none⟩ = some (.slice U1 (joinUp g h k).2.1.length v1) := k2.cell 1
                have r2 : wd.cell? ⟨bg, 2, none⟩ = some (.slice U2 (joinUp g h k).2.2.length v2) := k2.cell 2
                have hX4 := hX3.far3 (b' := bg) (by omega) (.slice T0 (addV (joinUp g h k) (gi h.1 k) (gi h.2.2 k) (shift g.2.2.length (gl h.2.1 k))).1.length d0') (.slice T1 (addV (joinUp g h k) (gi h.1 k) (gi h.2.2 k) (shift g.2.2.length (gl h.2.1 k))).2.1.length d1') (.slice T2 (addV (joinUp g h k) (gi h.1 k) (gi h.2.2 k) (shift g.2.2.length (gl h.2.1 k))).2.2.length d2')
                have hY4 := hY3.far3 (b' := bg) (by omega) (.slice T0 (addV (joinUp g h k) (gi h.1 k) (gi h.2.2 k) (shift g.2.2.length (gl h.2.1 k))).1.length d0') (.slice T1 (addV (joinUp g h k) (gi h.1 k) (gi h.2.2 k) (shift g.2.2.length (gl h.2.1 k))).2.1.length d1') (.slice T2 (addV (joinUp g h k) (gi h.1 k) (gi h.2.2 k) (shift g.2.2.length (gl h.2.1 k))).2.2.length d2')
                have HG4 := Lib.hid hG4; have HX4 := Lib.hid hX4; have HY4 := Lib.hid hY4
                clear hG4 hX4 hY4
                go_wp2
                exact ⟨⟨k + 1, _, _, _, by omega, by go_num, by rw [HN.out]; exact HG4.out, HX4.out, HY4.out⟩, by simp [intOf]; omega⟩
          · obtain rfl : m1 = k := by omega
            have E := Lib.hid (join_yes HPB.out HPB2.out (by rw [HP.out, KP.out]; exact HLE.out))
            have E2 := Lib.hid (show joinG g h = joinUp g h m1 by rw [joinG_yes E.out, KP.out, K20.out, K10.out])
            obtain ⟨U0, v0, U1, v1, U2, v2, rfl, rfl, rfl⟩ := hG.own.form
            have g0 : wr.cell? ⟨bg, 0, none⟩ = some (.slice U0 (joinUp g h m1).1.length v0) := hG.box.cell 0
            have g1 : wr.cell? ⟨bg, 1, none⟩ = some (.slice U1 (joinUp g h m1).2.1.length v1) := hG.box.cell 1
            have g2 : wr.cell? ⟨bg, 2, none⟩ = some (.slice U2 (joinUp g h m1).2.2.length v2) := hG.box.cell 2
            have z0 : wr.cell? ⟨w.heap.size + 1 + 1, 0, none⟩ = some (.slice none 0 0) := hG.zero.cell 0
            have z1 : wr.cell? ⟨w.heap.size + 1 + 1, 1, none⟩ = some (.slice none 0 0) := hG.zero.cell 1
            have z2 : wr.cell? ⟨w.heap.size + 1 + 1, 2, none⟩ = some (.slice none 0 0) := hG.zero.cell 2
            have f0 := hG.zero.hot 0; have f1 := hG.zero.hot 1; have f2 := hG.zero.hot 2
            obtain ⟨hF1, hF2, hF3⟩ := hG.fin
            have R0 := hF3.cell 0; have R1 := hF3.cell 1; have R2 := hF3.cell 2
            simp only [List.getElem?_toArray, List.getElem?_cons_zero, List.getElem?_cons_succ] at R0 R1 R2
            go_wp2
            exact bodyPost_ret (v := .tuple #[.agg #[.slice U0 (joinUp g h m1).1.length v0, .slice U1 (joinUp g h m1).2.1.length v1, .slice U2 (joinUp g h m1).2.2.length v2], .bool true]) (by simp [results, Try.results34, go_sem, R0, R1, R2]) rfl ⟨_, _, _, by rw [E.out], by rw [E2.out]; exact hF1.more (by omega), hF2.mono hB⟩
      · have E := Lib.hid (join_len (g := g) (h := h) (by rw [HP.out, KP.out]; exact hle))
        have E2 := Lib.hid (joinG_no E.out)
        have hwL : Below w.heap.size w (((w.alloc (.cells #[.slice A0 n0 c0, .slice A1 n1 c1, .slice A2 n2 c2] 33)).alloc (.cells #[.slice C0 m0 d0, .slice C1 m1 d1, .slice C2 m2 d2] 33)).alloc (.cells #[.slice none 0 0, .slice none 0 0, .slice none 0 0] 33)) := below_alloc (Nat.le_refl _) (below_alloc (Nat.le_refl _) (below_alloc (Nat.le_refl _) (Below.refl _ _)))
        have bzL : Box (((w.alloc (.cells #[.slice A0 n0 c0, .slice A1 n1 c1, .slice A2 n2 c2] 33)).alloc (.cells #[.slice C0 m0 d0, .slice C1 m1 d1, .slice C2 m2 d2] 33)).alloc (.cells #[.slice none 0 0, .slice none 0 0, .slice none 0 0] 33)) (w.heap.size + 1 + 1) 33 #[.slice none 0 0, .slice none 0 0, .slice none 0 0] := Box.new' (by simp)
        have bxL := (((Box.new w 33 #[.slice A0 n0 c0, .slice A1 n1 c1, .slice A2 n2 c2]).alloc (.cells #[.slice C0 m0 d0, .slice C1 m1 d1, .slice C2 m2 d2] 33)).alloc (.cells #[.slice none 0 0, .slice none 0 0, .slice none 0 0] 33))
        have byL : Box (((w.alloc (.cells #[.slice A0 n0 c0, .slice A1 n1 c1, .slice A2 n2 c2] 33)).alloc (.cells #[.slice C0 m0 d0, .slice C1 m1 d1, .slice C2 m2 d2] 33)).alloc (.cells #[.slice none 0 0, .slice none 0 0, .slice none 0 0] 33)) (w.heap.size + 1) 33 #[.slice C0 m0 d0, .slice C1 m1 d1, .slice C2 m2 d2] := ((Box.new' (w := (w.alloc (.cells #[.slice A0 n0 c0, .slice A1 n1 c1, .slice A2 n2 c2] 33))) (t := 33) (cs := #[.slice C0 m0 d0, .slice C1 m1 d1, .slice C2 m2 d2]) (by simp)).alloc (.cells #[.slice none 0 0, .slice none 0 0, .slice none 0 0] 33))
        have hw3L : w.heap.size + 3 ≤ (((w.alloc (.cells #[.slice A0 n0 c0, .slice A1 n1 c1, .slice A2 n2 c2] 33)).alloc (.cells #[.slice C0 m0 d0, .slice C1 m1 d1, .slice C2 m2 d2] 33)).alloc (.cells #[.slice none 0 0, .slice none 0 0, .slice none 0 0] 33)).heap.size := by simp
        go_enter Try.func34, Try.ntmps34
        have q0 : (((w.alloc (.cells #[.slice A0 n0 c0, .slice A1 n1 c1, .slice A2 n2 c2] 33)).alloc (.cells #[.slice C0 m0 d0, .slice C1 m1 d1, .slice C2 m2 d2] 33)).alloc (.cells #[.slice none 0 0, .slice none 0 0, .slice none 0 0] 33)).cell? ⟨w.heap.size, 0, none⟩ = some (.slice A0 n0 c0) := bxL.cell 0
        have q1 : (((w.alloc (.cells #[.slice A0 n0 c0, .slice A1 n1 c1, .slice A2 n2 c2] 33)).alloc (.cells #[.slice C0 m0 d0, .slice C1 m1 d1, .slice C2 m2 d2] 33)).alloc (.cells #[.slice none 0 0, .slice none 0 0, .slice none 0 0] 33)).cell? ⟨w.heap.size, 1, none⟩ = some (.slice A1 n1 c1) := bxL.cell 1
        have q2 : (((w.alloc (.cells #[.slice A0 n0 c0, .slice A1 n1 c1, .slice A2 n2 c2] 33)).alloc (.cells #[.slice C0 m0 d0, .slice C1 m1 d1, .slice C2 m2 d2] 33)).alloc (.cells #[.slice none 0 0, .slice none 0 0, .slice none 0 0] 33)).cell? ⟨w.heap.size, 2, none⟩ = some (.slice A2 n2 c2) := bxL.cell 2
        have p0 : (((w.alloc (.cells #[.slice A0 n0 c0, .slice A1 n1 c1, .slice A2 n2 c2] 33)).alloc (.cells #[.slice C0 m0 d0, .slice C1 m1 d1, .slice C2 m2 d2] 33)).alloc (.cells #[.slice none 0 0, .slice none 0 0, .slice none 0 0] 33)).cell? ⟨w.heap.size + 1, 0, none⟩ = some (.slice C0 m0 d0) := byL.cell 0
        have p1 : (((w.alloc (.cells #[.slice A0 n0 c0, .slice A1 n1 c1, .slice A2 n2 c2] 33)).alloc (.cells #[.slice C0 m0 d0, .slice C1 m1 d1, .slice C2 m2 d2] 33)).alloc (.cells #[.slice none 0 0, .slice none 0 0, .slice none 0 0] 33)).cell? ⟨w.heap.size + 1, 1, none⟩ = some (.slice C1 m1 d1) := byL.cell 1
        have p2 : (((w.alloc (.cells #[.slice A0 n0 c0, .slice A1 n1 c1, .slice A2 n2 c2] 33)).alloc (.cells #[.slice C0 m0 d0, .slice C1 m1 d1, .slice C2 m2 d2] 33)).alloc (.cells #[.slice none 0 0, .slice none 0 0, .slice none 0 0] 33)).cell? ⟨w.heap.size + 1, 2, none⟩ = some (.slice C2 m2 d2) := byL.cell 2
        go_wp2_with fail
        refine (implParityOk _ _ _ g _ _ (Nat.le_refl _) (har.keep (keeps_below hwL))).mono ?_; rintro e w1 ⟨rfl, hb1⟩
        rw [HPB.out]
        replace hw3L := Nat.le_trans hw3L hb1.size; replace hwL := below_then hb1 hwL.size hwL; replace bzL := bzL.on hb1; replace bxL := bxL.on hb1; replace byL := byL.on hb1
        clear q0 q1 q2 p0 p1 p2 hb1
        have q0 : w1.cell? ⟨w.heap.size, 0, none⟩ = some (.slice A0 n0 c0) := bxL.cell 0
        have q1 : w1.cell? ⟨w.heap.size, 1, none⟩ = some (.slice A1 n1 c1) := bxL.cell 1
        have q2 : w1.cell? ⟨w.heap.size, 2, none⟩ = some (.slice A2 n2 c2) := bxL.cell 2
        have p0 : w1.cell? ⟨w.heap.size + 1, 0, none⟩ = some (.slice C0 m0 d0) := byL.cell 0
        have p1 : w1.cell? ⟨w.heap.size + 1, 1, none⟩ = some (.slice C1 m1 d1) := byL.cell 1
        have p2 : w1.cell? ⟨w.heap.size + 1, 2, none⟩ = some (.slice C2 m2 d2) := byL.cell 2
        go_wp2_with fail
        refine (implParityOk _ _ _ h _ _ (Nat.le_refl _) (hbr.keep (keeps_below hwL))).mono ?_; rintro e w2 ⟨rfl, hb2⟩
        rw [HPB2.out]
        replace hw3L := Nat.le_trans hw3L hb2.size; replace hwL := below_then hb2 hwL.size hwL; replace bzL := bzL.on hb2; replace bxL := bxL.on hb2; replace byL := byL.on hb2
        clear q0 q1 q2 p0 p1 p2 hb2
        have q0 : w2.cell? ⟨w.heap.size, 0, none⟩ = some (.slice A0 n0 c0) := bxL.cell 0
        have q1 : w2.cell? ⟨w.heap.size, 1, none⟩ = some (.slice A1 n1 c1) := bxL.cell 1
        have q2 : w2.cell? ⟨w.heap.size, 2, none⟩ = some (.slice A2 n2 c2) := bxL.cell 2
        have p0 : w2.cell? ⟨w.heap.size + 1, 0, none⟩ = some (.slice C0 m0 d0) := byL.cell 0
        have p1 : w2.cell? ⟨w.heap.size + 1, 1, none⟩ = some (.slice C1 m1 d1) := byL.cell 1
        have p2 : w2.cell? ⟨w.heap.size + 1, 2, none⟩ = some (.slice C2 m2 d2) := byL.cell 2
        have hgt : (256 : Int) < (n2 : Int) + (m2 : Int) := by omega
        obtain ⟨hwZ, bxZ⟩ := zero3 hwL (by omega) bzL (.slice none 0 0) (.slice none 0 0) (.slice none 0 0)
        have z0 := bzL.cell 0; have z1 := bzL.cell 1; have z2 := bzL.cell 2; have f0 := bzL.hot 0; have f1 := bzL.hot 1; have f2 := bzL.hot 2
        simp only [List.getElem?_toArray, List.getElem?_cons_zero, List.getElem?_cons_succ] at z0 z1 z2
        have R0 := bxZ.cell 0; have R1 := bxZ.cell 1; have R2 := bxZ.cell 2
        simp only [List.getElem?_toArray, List.getElem?_cons_zero, List.getElem?_cons_succ] at R0 R1 R2
        go_wp2
        exact bodyPost_ret (v := .tuple #[.agg #[.slice none 0 0, .slice none 0 0, .slice none 0 0], .bool false]) (by simp [results, Try.results34, go_sem, R0, R1, R2]) rfl ⟨_, _, _, by rw [E.out], by rw [E2.out]; exact OPar.nil _ _, hwZ.mono hB⟩

end Go.Proofs.Ytlmhhnplacejkaa
