/- Small words for a region in which a result's box is made anywhere between the calls. -/
import Derived.Test.YtlmhhnplacejkaaUse
import Derived.Deep.RegionHeld3
namespace Go.Proofs.Ytlmhhnplacejkaa
open Go.RowKit

theorem below_unalloc {w w' : World} {o : Obj} (h : Below (w.alloc o).heap.size (w.alloc o) w') : Below w.heap.size w w' :=
  below_then h (by simp) (below_alloc (Nat.le_refl _) (Below.refl _ _))
theorem Box.on {w w' : World} {b : Nat} {t : TypeId} {cs : Array Value} (h : Box w b t cs) (hb : Below w.heap.size w w') : Box w' b t cs := h.below hb h.lt
theorem Box.allocT {w w' : World} {t : TypeId} {cs : Array Value} (hb : Below (w.alloc (.cells cs t)).heap.size (w.alloc (.cells cs t)) w') : Box w' w.heap.size t cs := (Box.new w t cs).on hb
theorem Box.allocD {w w' : World} {t : TypeId} {cs : Array Value} (hb : Below (w.alloc (.cells cs t)).drew.heap.size (w.alloc (.cells cs t)).drew w') : Box w' w.heap.size t cs := (Box.new w t cs).on (below_undrew hb)
theorem Box.set2 {w : World} {b : Nat} {t : TypeId} {y0 y1 : Value} (h : Box w b t #[y0, y1]) (x0 x1 : Value) : Box ((w.setCell ⟨b, 0, none⟩ x0).setCell ⟨b, 1, none⟩ x1) b t #[x0, x1] := by
  have := (h.set_ 0 x0).set_ 1 x1
  simpa using this
theorem Far.alloc {lo : Nat} {wb w : World} (f : Far lo wb w) (o : Obj) : Far lo wb (w.alloc o) := f.step (below_alloc (Nat.le_refl _) (Below.refl _ _))
theorem Far.drew {lo : Nat} {wb w : World} (f : Far lo wb w) : Far lo wb w.drew := f.step (Below.drew (Below.refl _ _))
theorem Far.set {lo : Nat} {wb w : World} {p : Addr} (f : Far lo wb w) (hp : p.block < lo ∨ wb.heap.size ≤ p.block) (u : Value) : Far lo wb (w.setCell p u) := by
  refine Chg.trans f (Chg.set p u) (fun _ h => h) (fun x hx => ?_)
  have hx' : x = p.block := hx
  subst hx'
  omega
theorem keepS {w : World} {p a : Addr} {v u : Value} (h : w.cell? p = some v) (hne : p.block ≠ a.block) : (w.setCell a u).cell? p = some v := by
  rw [World.cell?_setCell_far w a p u (fun e => hne e.symm)]
  exact h
end Go.Proofs.Ytlmhhnplacejkaa
