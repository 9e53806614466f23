/- Small words for a region in which a result's box is made anywhere between the calls. -/
import Derived.Test.YtkhkdnmpbfmmeaaDoorUse
import Derived.Deep.RegionHeld3
namespace Go.Proofs.YtkhkdnmpbfmmeaaDoor
open Go.RowKit

theorem Box.on {w w' : World} {b : Nat} {t : TypeId} {cs : Array Value} (h : Box w b t cs) (hb : Below w.heap.size w w') : Box w' b t cs := h.below hb h.lt
theorem Box.set2 {w : World} {b : Nat} {t : TypeId} {y0 y1 : Value} (h : Box w b t #[y0, y1]) (x0 x1 : Value) : Box ((w.setCell ⟨b, 0, none⟩ x0).setCell ⟨b, 1, none⟩ x1) b t #[x0, x1] := by
  have := (h.set_ 0 x0).set_ 1 x1
  simpa using this
theorem Far.alloc {lo : Nat} {wb w : World} (f : Far lo wb w) (o : Obj) : Far lo wb (w.alloc o) := f.step (below_alloc (Nat.le_refl _) (Below.refl _ _))
theorem Far.drew {lo : Nat} {wb w : World} (f : Far lo wb w) : Far lo wb w.drew := f.step (Below.drew (Below.refl _ _))
theorem Far.set {lo : Nat} {wb w : World} {p : Addr} (f : Far lo wb w) (hp : p.block < lo ∨ wb.heap.size ≤ p.block) (u : Value) : Far lo wb (w.setCell p u) := by
  refine Chg.trans f (Chg.set p u) (fun _ h => h) (fun x hx => ?_)
  have hx' : x = p.block := hx
  subst hx'
  omega
end Go.Proofs.YtkhkdnmpbfmmeaaDoor
