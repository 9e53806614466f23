/- The state of a function that builds a game in a box behind other boxes. -/
import Derived.Test.YtkhkdnmpbfmmeaaDoorParL
import Derived.Test.YtkhkdnmpbfmmeaaDoorGame
namespace Go.Proofs.YtkhkdnmpbfmmeaaDoor
open Go.RowKit

/-- from w0 on: the result's box br is still zero, the box bg holds the game g, whose rows lie from B on -/
def GSx (B : Nat) (w0 wr : World) (br bg : Nat) (s0 s1 s2 : Value) (g : ParD) : Prop :=
  Below w0.heap.size w0 wr ∧ B ≤ wr.heap.size ∧ (w0.heap.size ≤ br ∧ br < bg ∧ bg < B) ∧ Box wr br 54 #[.slice none 0 0, .slice none 0 0, .slice none 0 0] ∧ Box wr bg 54 #[s0, s1, s2] ∧ OPar wr B s0 s1 s2 g
section
variable {B : Nat} {w0 wr w : World} {br bg : Nat} {s0 s1 s2 t0 t1 t2 : Value} {g g' : ParD}
theorem GSx.below (h : GSx B w0 wr br bg s0 s1 s2 g) : Below w0.heap.size w0 wr := h.1
theorem GSx.size (h : GSx B w0 wr br bg s0 s1 s2 g) : B ≤ wr.heap.size := h.2.1
theorem GSx.ord (h : GSx B w0 wr br bg s0 s1 s2 g) : w0.heap.size ≤ br ∧ br < bg ∧ bg < B := h.2.2.1
theorem GSx.zero (h : GSx B w0 wr br bg s0 s1 s2 g) : Box wr br 54 #[.slice none 0 0, .slice none 0 0, .slice none 0 0] := h.2.2.2.1
theorem GSx.box (h : GSx B w0 wr br bg s0 s1 s2 g) : Box wr bg 54 #[s0, s1, s2] := h.2.2.2.2.1
theorem GSx.own (h : GSx B w0 wr br bg s0 s1 s2 g) : OPar wr B s0 s1 s2 g := h.2.2.2.2.2
theorem GSx.move (h : GSx B w0 wr br bg s0 s1 s2 g) (hb : Below wr.heap.size wr w) : GSx B w0 w br bg s0 s1 s2 g :=
  ⟨below_then hb h.1.size h.1, Nat.le_trans h.size hb.size, h.ord, h.zero.on hb, h.box.on hb, h.own.below hb⟩
theorem GSx.c0 (h : GSx B w0 wr br bg s0 s1 s2 g) : wr.cell? ⟨bg, 0, none⟩ = some s0 := h.box.cell 0
theorem GSx.c1 (h : GSx B w0 wr br bg s0 s1 s2 g) : wr.cell? ⟨bg, 1, none⟩ = some s1 := h.box.cell 1
theorem GSx.c2 (h : GSx B w0 wr br bg s0 s1 s2 g) : wr.cell? ⟨bg, 2, none⟩ = some s2 := h.box.cell 2
theorem GSx.z0 (h : GSx B w0 wr br bg s0 s1 s2 g) : wr.cell? ⟨br, 0, none⟩ = some (.slice none 0 0) := h.zero.cell 0
theorem GSx.z1 (h : GSx B w0 wr br bg s0 s1 s2 g) : wr.cell? ⟨br, 1, none⟩ = some (.slice none 0 0) := h.zero.cell 1
theorem GSx.z2 (h : GSx B w0 wr br bg s0 s1 s2 g) : wr.cell? ⟨br, 2, none⟩ = some (.slice none 0 0) := h.zero.cell 2
theorem GSx.call (h : GSx B w0 wr br bg s0 s1 s2 g) (hb : Below B wr w) : Box w br 54 #[.slice none 0 0, .slice none 0 0, .slice none 0 0] ∧ Box w bg 54 #[s0, s1, s2] ∧ Below w0.heap.size w0 w ∧ B ≤ w.heap.size :=
  ⟨h.zero.below hb (by have := h.ord; omega), h.box.below hb (by have := h.ord; omega), h.1.trans (hb.mono (by have := h.ord; omega)), Nat.le_trans h.size hb.size⟩
theorem GSx.start {w0 w : World} {br : Nat} (hw : Below w0.heap.size w0 w) (hb : w0.heap.size ≤ br) (hz : Box w br 54 #[.slice none 0 0, .slice none 0 0, .slice none 0 0]) : GSx (w.heap.size + 1) w0 (w.alloc (.cells #[.slice none 0 0, .slice none 0 0, .slice none 0 0] 54)) br w.heap.size (.slice none 0 0) (.slice none 0 0) (.slice none 0 0) ([], [], []) :=
  ⟨below_alloc (Nat.le_refl _) hw, by simp, ⟨hb, hz.lt, Nat.lt_succ_self _⟩, hz.alloc _, Box.new _ _ _, OPar.nil _ _⟩
end
end Go.Proofs.YtkhkdnmpbfmmeaaDoor
