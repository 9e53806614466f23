/- The state of a function that builds a game in a box behind other boxes. -/
import Derived.Test.YtngadlpfheakiaaParL
import Derived.Test.YtngadlpfheakiaaGame
namespace Go.Proofs.Ytngadlpfheakiaa
open Go.RowKit

/-- from w0 on: the result's box br is still zero, the box bg holds the game g, whose rows lie from B on -/
def GSx (B : Nat) (w0 wr : World) (br bg : Nat) (s0 s1 s2 : Value) (g : ParD) : Prop :=
  Below w0.heap.size w0 wr ∧ B ≤ wr.heap.size ∧ (w0.heap.size ≤ br ∧ br < bg ∧ bg < B) ∧ Box wr br 32 #[.slice none 0 0, .slice none 0 0, .slice none 0 0] ∧ Box wr bg 32 #[s0, s1, s2] ∧ OPar wr B s0 s1 s2 g
section
variable {B : Nat} {w0 wr w : World} {br bg : Nat} {s0 s1 s2 t0 t1 t2 : Value} {g g' : ParD}
theorem GSx.below (h : GSx B w0 wr br bg s0 s1 s2 g) : Below w0.heap.size w0 wr := h.1
theorem GSx.size (h : GSx B w0 wr br bg s0 s1 s2 g) : B ≤ wr.heap.size := h.2.1
theorem GSx.ord (h : GSx B w0 wr br bg s0 s1 s2 g) : w0.heap.size ≤ br ∧ br < bg ∧ bg < B := h.2.2.1
theorem GSx.zero (h : GSx B w0 wr br bg s0 s1 s2 g) : Box wr br 32 #[.slice none 0 0, .slice none 0 0, .slice none 0 0] := h.2.2.2.1
theorem GSx.box (h : GSx B w0 wr br bg s0 s1 s2 g) : Box wr bg 32 #[s0, s1, s2] := h.2.2.2.2.1
theorem GSx.own (h : GSx B w0 wr br bg s0 s1 s2 g) : OPar wr B s0 s1 s2 g := h.2.2.2.2.2
theorem GSx.move (h : GSx B w0 wr br bg s0 s1 s2 g) (hb : Below wr.heap.size wr w) : GSx B w0 w br bg s0 s1 s2 g :=
  ⟨below_then hb h.1.size h.1, Nat.le_trans h.size hb.size, h.ord, h.zero.on hb, h.box.on hb, h.own.below hb⟩
theorem GSx.c0 (h : GSx B w0 wr br bg s0 s1 s2 g) : wr.cell? ⟨bg, 0, none⟩ = some s0 := h.box.cell 0
theorem GSx.c1 (h : GSx B w0 wr br bg s0 s1 s2 g) : wr.cell? ⟨bg, 1, none⟩ = some s1 := h.box.cell 1
theorem GSx.c2 (h : GSx B w0 wr br bg s0 s1 s2 g) : wr.cell? ⟨bg, 2, none⟩ = some s2 := h.box.cell 2
theorem GSx.z0 (h : GSx B w0 wr br bg s0 s1 s2 g) : wr.cell? ⟨br, 0, none⟩ = some (.slice none 0 0) := h.zero.cell 0
theorem GSx.z1 (h : GSx B w0 wr br bg s0 s1 s2 g) : wr.cell? ⟨br, 1, none⟩ = some (.slice none 0 0) := h.zero.cell 1
theorem GSx.z2 (h : GSx B w0 wr br bg s0 s1 s2 g) : wr.cell? ⟨br, 2, none⟩ = some (.slice none 0 0) := h.zero.cell 2
theorem GSx.hotZ (h : GSx B w0 wr br bg s0 s1 s2 g) (i : Nat) : wr.frozen? ⟨br, i, none⟩ = false := h.zero.hot i
theorem GSx.call (h : GSx B w0 wr br bg s0 s1 s2 g) (hb : Below B wr w) : Box w br 32 #[.slice none 0 0, .slice none 0 0, .slice none 0 0] ∧ Box w bg 32 #[s0, s1, s2] ∧ Below w0.heap.size w0 w ∧ B ≤ w.heap.size :=
  ⟨h.zero.below hb (by have := h.ord; omega), h.box.below hb (by have := h.ord; omega), h.1.trans (hb.mono (by have := h.ord; omega)), Nat.le_trans h.size hb.size⟩
theorem GSx.store (h : GSx B w0 wr br bg s0 s1 s2 g) (hb : Below B wr w) (ho : OPar w B t0 t1 t2 g') :
    GSx B w0 (((w.setCell ⟨bg, 0, none⟩ t0).setCell ⟨bg, 1, none⟩ t1).setCell ⟨bg, 2, none⟩ t2) br bg t0 t1 t2 g' := by
  obtain ⟨k1, k2, k3, k4⟩ := h.call hb
  have ch := Chg.set3 w bg t0 t1 t2
  have := h.ord
  refine ⟨k3.trans (ch.below (by have := k3.size; omega) (fun x hx => by omega)), by have := ch.size; omega, h.ord, k1.far3 (by omega) _ _ _, k2.set3 _ _ _, ho.chg ch (fun x hx => by omega)⟩
theorem GSx.fin (h : GSx B w0 wr br bg s0 s1 s2 g) : OPar (((wr.setCell ⟨br, 0, none⟩ s0).setCell ⟨br, 1, none⟩ s1).setCell ⟨br, 2, none⟩ s2) B s0 s1 s2 g ∧
    Below w0.heap.size w0 (((wr.setCell ⟨br, 0, none⟩ s0).setCell ⟨br, 1, none⟩ s1).setCell ⟨br, 2, none⟩ s2) ∧
    Box (((wr.setCell ⟨br, 0, none⟩ s0).setCell ⟨br, 1, none⟩ s1).setCell ⟨br, 2, none⟩ s2) br 32 #[s0, s1, s2] := by
  have ch := Chg.set3 wr br s0 s1 s2
  have := h.ord
  exact ⟨h.own.chg ch (fun x hx => by omega), h.1.trans (ch.below h.1.size (fun x hx => by omega)), h.zero.set3 _ _ _⟩
theorem GSx.start {w0 w : World} {br : Nat} (hw : Below w0.heap.size w0 w) (hb : w0.heap.size ≤ br) (hz : Box w br 32 #[.slice none 0 0, .slice none 0 0, .slice none 0 0]) : GSx (w.heap.size + 1) w0 (w.alloc (.cells #[.slice none 0 0, .slice none 0 0, .slice none 0 0] 32)) br w.heap.size (.slice none 0 0) (.slice none 0 0) (.slice none 0 0) ([], [], []) :=
  ⟨below_alloc (Nat.le_refl _) hw, by simp, ⟨hb, hz.lt, Nat.lt_succ_self _⟩, hz.alloc _, Box.new _ _ _, OPar.nil _ _⟩
/-- a refusal: zero is laid into the result's box once more -/
theorem zero3 {w0 w : World} {b : Nat} {y0 y1 y2 : Value} (hw : Below w0.heap.size w0 w) (hb : w0.heap.size ≤ b) (hz : Box w b 32 #[y0, y1, y2]) (x0 x1 x2 : Value) :
    Below w0.heap.size w0 (((w.setCell ⟨b, 0, none⟩ x0).setCell ⟨b, 1, none⟩ x1).setCell ⟨b, 2, none⟩ x2) ∧ Box (((w.setCell ⟨b, 0, none⟩ x0).setCell ⟨b, 1, none⟩ x1).setCell ⟨b, 2, none⟩ x2) b 32 #[x0, x1, x2] := by
  have ch := Chg.set3 w b x0 x1 x2
  exact ⟨hw.trans (ch.below hw.size (fun x hx => by omega)), hz.set3 _ _ _⟩
theorem below_cell {w w' : World} {b o : Nat} {v : Value} (h : Below w.heap.size w w') (hc : w.cell? ⟨b, o, none⟩ = some v) : w'.cell? ⟨b, o, none⟩ = some v := keeps_below h _ _ hc
theorem cell_lt {w : World} {b o : Nat} {v : Value} (hc : w.cell? ⟨b, o, none⟩ = some v) : b < w.heap.size := by simpa using World.block_lt_of_cell? w _ hc
end
end Go.Proofs.Ytngadlpfheakiaa
