/- The state of a function that builds a game in a box: what holds at each round's head. -/
import Derived.Test.YtngadlpfheakiaaUse
import Derived.Test.YtngadlpfheakiaaPick
namespace Go.Proofs.Ytngadlpfheakiaa
open Go.RowKit

/-- from w0 on: the result's box (block at w0's end) is still zero, the box behind it holds the game g -/
def GSt (w0 wr : World) (s0 s1 s2 : Value) (g : ParD) : Prop :=
  Below w0.heap.size w0 wr ∧ w0.heap.size + 2 ≤ wr.heap.size ∧ Box wr w0.heap.size 32 #[.slice none 0 0, .slice none 0 0, .slice none 0 0] ∧ Box wr (w0.heap.size + 1) 32 #[s0, s1, s2] ∧ OPar wr (w0.heap.size + 2) s0 s1 s2 g
section
variable {w0 wr w : World} {s0 s1 s2 t0 t1 t2 : Value} {g g' : ParD}
theorem GSt.below (h : GSt w0 wr s0 s1 s2 g) : Below w0.heap.size w0 wr := h.1
theorem GSt.size (h : GSt w0 wr s0 s1 s2 g) : w0.heap.size + 2 ≤ wr.heap.size := h.2.1
theorem GSt.zero (h : GSt w0 wr s0 s1 s2 g) : Box wr w0.heap.size 32 #[.slice none 0 0, .slice none 0 0, .slice none 0 0] := h.2.2.1
theorem GSt.box (h : GSt w0 wr s0 s1 s2 g) : Box wr (w0.heap.size + 1) 32 #[s0, s1, s2] := h.2.2.2.1
theorem GSt.own (h : GSt w0 wr s0 s1 s2 g) : OPar wr (w0.heap.size + 2) s0 s1 s2 g := h.2.2.2.2
theorem GSt.move (h : GSt w0 wr s0 s1 s2 g) (hb : Below wr.heap.size wr w) : GSt w0 w s0 s1 s2 g :=
  ⟨below_then hb (by have := h.size; omega) h.1, by have := h.size; have := hb.size; omega, h.zero.below hb h.zero.lt, h.box.below hb h.box.lt, h.own.below hb⟩
theorem GSt.start (w : World) : GSt w ((w.alloc (.cells #[.slice none 0 0, .slice none 0 0, .slice none 0 0] 32)).alloc (.cells #[.slice none 0 0, .slice none 0 0, .slice none 0 0] 32)) (.slice none 0 0) (.slice none 0 0) (.slice none 0 0) ([], [], []) :=
  ⟨below_alloc (Nat.le_refl _) (below_alloc (Nat.le_refl _) (Below.refl _ _)), by simp, (Box.new _ _ _).alloc _, Box.new' (by simp), OPar.nil _ _⟩
theorem GSt.c0 (h : GSt w0 wr s0 s1 s2 g) : wr.cell? ⟨w0.heap.size + 1, 0, none⟩ = some s0 := h.box.cell 0
theorem GSt.c1 (h : GSt w0 wr s0 s1 s2 g) : wr.cell? ⟨w0.heap.size + 1, 1, none⟩ = some s1 := h.box.cell 1
theorem GSt.c2 (h : GSt w0 wr s0 s1 s2 g) : wr.cell? ⟨w0.heap.size + 1, 2, none⟩ = some s2 := h.box.cell 2
theorem GSt.z0 (h : GSt w0 wr s0 s1 s2 g) : wr.cell? ⟨w0.heap.size, 0, none⟩ = some (.slice none 0 0) := h.zero.cell 0
theorem GSt.z1 (h : GSt w0 wr s0 s1 s2 g) : wr.cell? ⟨w0.heap.size, 1, none⟩ = some (.slice none 0 0) := h.zero.cell 1
theorem GSt.z2 (h : GSt w0 wr s0 s1 s2 g) : wr.cell? ⟨w0.heap.size, 2, none⟩ = some (.slice none 0 0) := h.zero.cell 2
theorem GSt.hotZ (h : GSt w0 wr s0 s1 s2 g) (i : Nat) : wr.frozen? ⟨w0.heap.size, i, none⟩ = false := h.zero.hot i
theorem GSt.blk (h : GSt w0 wr s0 s1 s2 g) : w0.heap.size < wr.heap.size := by have := h.size; omega
/-- behind a call that gave a new game in new memory -/
theorem GSt.call (h : GSt w0 wr s0 s1 s2 g) (hb : Below (w0.heap.size + 2) wr w) : Box w w0.heap.size 32 #[.slice none 0 0, .slice none 0 0, .slice none 0 0] ∧ Box w (w0.heap.size + 1) 32 #[s0, s1, s2] ∧ Below w0.heap.size w0 w ∧ w0.heap.size + 2 ≤ w.heap.size :=
  ⟨h.zero.below hb (by omega), h.box.below hb (by omega), h.1.trans (hb.mono (by omega)), by have := h.size; have := hb.size; omega⟩
/-- the new game has been stored -/
theorem GSt.store (h : GSt w0 wr s0 s1 s2 g) (hb : Below (w0.heap.size + 2) wr w) (ho : OPar w (w0.heap.size + 2) t0 t1 t2 g') :
    GSt w0 (((w.setCell ⟨w0.heap.size + 1, 0, none⟩ t0).setCell ⟨w0.heap.size + 1, 1, none⟩ t1).setCell ⟨w0.heap.size + 1, 2, none⟩ t2) t0 t1 t2 g' := by
  obtain ⟨k1, k2, k3, k4⟩ := h.call hb
  have ch := Chg.set3 w (w0.heap.size + 1) t0 t1 t2
  refine ⟨k3.trans (ch.below (by omega) (fun x hx => by omega)), by have := ch.size; omega, k1.far3 (by omega) _ _ _, k2.set3 _ _ _, ho.chg ch (fun x hx => by omega)⟩
/-- the game has been laid into the result's box -/
theorem GSt.fin (h : GSt w0 wr s0 s1 s2 g) : OPar (((wr.setCell ⟨w0.heap.size, 0, none⟩ s0).setCell ⟨w0.heap.size, 1, none⟩ s1).setCell ⟨w0.heap.size, 2, none⟩ s2) (w0.heap.size + 2) s0 s1 s2 g ∧
    Below w0.heap.size w0 (((wr.setCell ⟨w0.heap.size, 0, none⟩ s0).setCell ⟨w0.heap.size, 1, none⟩ s1).setCell ⟨w0.heap.size, 2, none⟩ s2) ∧
    Box (((wr.setCell ⟨w0.heap.size, 0, none⟩ s0).setCell ⟨w0.heap.size, 1, none⟩ s1).setCell ⟨w0.heap.size, 2, none⟩ s2) w0.heap.size 32 #[s0, s1, s2] := by
  have ch := Chg.set3 wr w0.heap.size s0 s1 s2
  have := h.blk
  exact ⟨h.own.chg ch (fun x hx => by omega), h.1.trans (ch.below (by omega) (fun x hx => by omega)), h.zero.set3 _ _ _⟩
end
theorem Box.c0 {w : World} {b : Nat} {t : TypeId} {x0 x1 x2 : Value} (h : Box w b t #[x0, x1, x2]) : w.cell? ⟨b, 0, none⟩ = some x0 := h.cell 0
theorem Box.c1 {w : World} {b : Nat} {t : TypeId} {x0 x1 x2 : Value} (h : Box w b t #[x0, x1, x2]) : w.cell? ⟨b, 1, none⟩ = some x1 := h.cell 1
theorem Box.c2 {w : World} {b : Nat} {t : TypeId} {x0 x1 x2 : Value} (h : Box w b t #[x0, x1, x2]) : w.cell? ⟨b, 2, none⟩ = some x2 := h.cell 2
end Go.Proofs.Ytngadlpfheakiaa
