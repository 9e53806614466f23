/- Arenas: whether one is in order; spec.ArenaOk, impl.ArenaOk. -/
import Derived.Test.YtkhkdnmpbfmmeaaDoorPar
import Derived.Test.YtkhkdnmpbfmmeaaDoorFn6
import Derived.Test.YtkhkdnmpbfmmeaaDoorPush
namespace Go.Proofs.YtkhkdnmpbfmmeaaDoor
open Go.RowKit

abbrev ArD := List Int × List (List Int)
theorem Box.d0 {w : World} {b : Nat} {t : TypeId} {x0 x1 : Value} (h : Box w b t #[x0, x1]) : w.cell? ⟨b, 0, none⟩ = some x0 := h.cell 0
theorem Box.d1 {w : World} {b : Nat} {t : TypeId} {x0 x1 : Value} (h : Box w b t #[x0, x1]) : w.cell? ⟨b, 1, none⟩ = some x1 := h.cell 1

end Go.Proofs.YtkhkdnmpbfmmeaaDoor
