/- The state of a function that builds a game in a box: what holds at each round's head. -/
import Derived.Test.YtkhkdnmpbfmmeaaDoorUse
import Derived.Test.YtkhkdnmpbfmmeaaDoorPick
namespace Go.Proofs.YtkhkdnmpbfmmeaaDoor
open Go.RowKit

/-- from w0 on: the result's box (block at w0's end) is still zero, the box behind it holds the game g -/
def GSt (w0 wr : World) (s0 s1 s2 : Value) (g : ParD) : Prop :=
  Below w0.heap.size w0 wr ∧ w0.heap.size + 2 ≤ wr.heap.size ∧ Box wr w0.heap.size 54 #[.slice none 0 0, .slice none 0 0, .slice none 0 0] ∧ Box wr (w0.heap.size + 1) 54 #[s0, s1, s2] ∧ OPar wr (w0.heap.size + 2) s0 s1 s2 g
section
variable {w0 wr w : World} {s0 s1 s2 t0 t1 t2 : Value} {g g' : ParD}
theorem GSt.below (h : GSt w0 wr s0 s1 s2 g) : Below w0.heap.size w0 wr := h.1
theorem GSt.size (h : GSt w0 wr s0 s1 s2 g) : w0.heap.size + 2 ≤ wr.heap.size := h.2.1
theorem GSt.zero (h : GSt w0 wr s0 s1 s2 g) : Box wr w0.heap.size 54 #[.slice none 0 0, .slice none 0 0, .slice none 0 0] := h.2.2.1
theorem GSt.box (h : GSt w0 wr s0 s1 s2 g) : Box wr (w0.heap.size + 1) 54 #[s0, s1, s2] := h.2.2.2.1
theorem GSt.own (h : GSt w0 wr s0 s1 s2 g) : OPar wr (w0.heap.size + 2) s0 s1 s2 g := h.2.2.2.2
theorem GSt.move (h : GSt w0 wr s0 s1 s2 g) (hb : Below wr.heap.size wr w) : GSt w0 w s0 s1 s2 g :=
  ⟨below_then hb (by have := h.size; omega) h.1, by have := h.size; have := hb.size; omega, h.zero.below hb h.zero.lt, h.box.below hb h.box.lt, h.own.below hb⟩
theorem GSt.start (w : World) : GSt w ((w.alloc (.cells #[.slice none 0 0, .slice none 0 0, .slice none 0 0] 54)).alloc (.cells #[.slice none 0 0, .slice none 0 0, .slice none 0 0] 54)) (.slice none 0 0) (.slice none 0 0) (.slice none 0 0) ([], [], []) :=
  ⟨below_alloc (Nat.le_refl _) (below_alloc (Nat.le_refl _) (Below.refl _ _)), by simp, (Box.new _ _ _).alloc _, Box.new' (by simp), OPar.nil _ _⟩
theorem GSt.c0 (h : GSt w0 wr s0 s1 s2 g) : wr.cell? ⟨w0.heap.size + 1, 0, none⟩ = some s0 := h.box.cell 0
theorem GSt.c1 (h : GSt w0 wr s0 s1 s2 g) : wr.cell? ⟨w0.heap.size + 1, 1, none⟩ = some s1 := h.box.cell 1
theorem GSt.c2 (h : GSt w0 wr s0 s1 s2 g) : wr.cell? ⟨w0.heap.size + 1, 2, none⟩ = some s2 := h.box.cell 2
theorem GSt.z0 (h : GSt w0 wr s0 s1 s2 g) : wr.cell? ⟨w0.heap.size, 0, none⟩ = some (.slice none 0 0) := h.zero.cell 0
theorem GSt.z1 (h : GSt w0 wr s0 s1 s2 g) : wr.cell? ⟨w0.heap.size, 1, none⟩ = some (.slice none 0 0) := h.zero.cell 1
theorem GSt.z2 (h : GSt w0 wr s0 s1 s2 g) : wr.cell? ⟨w0.heap.size, 2, none⟩ = some (.slice none 0 0) := h.zero.cell 2
/-- behind a call that gave a new game in new memory -/
theorem GSt.call (h : GSt w0 wr s0 s1 s2 g) (hb : Below (w0.heap.size + 2) wr w) : Box w w0.heap.size 54 #[.slice none 0 0, .slice none 0 0, .slice none 0 0] ∧ Box w (w0.heap.size + 1) 54 #[s0, s1, s2] ∧ Below w0.heap.size w0 w ∧ w0.heap.size + 2 ≤ w.heap.size :=
  ⟨h.zero.below hb (by omega), h.box.below hb (by omega), h.1.trans (hb.mono (by omega)), by have := h.size; have := hb.size; omega⟩
end
theorem Box.c0 {w : World} {b : Nat} {t : TypeId} {x0 x1 x2 : Value} (h : Box w b t #[x0, x1, x2]) : w.cell? ⟨b, 0, none⟩ = some x0 := h.cell 0
theorem Box.c1 {w : World} {b : Nat} {t : TypeId} {x0 x1 x2 : Value} (h : Box w b t #[x0, x1, x2]) : w.cell? ⟨b, 1, none⟩ = some x1 := h.cell 1
theorem Box.c2 {w : World} {b : Nat} {t : TypeId} {x0 x1 x2 : Value} (h : Box w b t #[x0, x1, x2]) : w.cell? ⟨b, 2, none⟩ = some x2 := h.cell 2
end Go.Proofs.YtkhkdnmpbfmmeaaDoor
