/- Small words for a region in which a result's box is made anywhere between the calls. -/
import Derived.Test.YtkhkdnmpbfmmeaaDoorUse
import Derived.Deep.RegionHeld3
namespace Go.Proofs.YtkhkdnmpbfmmeaaDoor
open Go.RowKit

theorem Box.on {w w' : World} {b : Nat} {t : TypeId} {cs : Array Value} (h : Box w b t cs) (hb : Below w.heap.size w w') : Box w' b t cs := h.below hb h.lt
theorem Far.alloc {lo : Nat} {wb w : World} (f : Far lo wb w) (o : Obj) : Far lo wb (w.alloc o) := f.step (below_alloc (Nat.le_refl _) (Below.refl _ _))
theorem Far.drew {lo : Nat} {wb w : World} (f : Far lo wb w) : Far lo wb w.drew := f.step (Below.drew (Below.refl _ _))
theorem Far.set {lo : Nat} {wb w : World} {p : Addr} (f : Far lo wb w) (hp : p.block < lo ∨ wb.heap.size ≤ p.block) (u : Value) : Far lo wb (w.setCell p u) := by
  refine Chg.trans f (Chg.set p u) (fun _ h => h) (fun x hx => ?_)
  have hx' : x = p.block := hx
  subst hx'
  omega
end Go.Proofs.YtkhkdnmpbfmmeaaDoor
