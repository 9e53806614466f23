/- How the arguments of a law are opened: from the reading that the statement speaks of to the readings that the walks speak of. -/
import Derived.Test.YtkhkdnmpbfmmeaaDoorLib
import Derived.ProofKit
import Derived.OpenShut
import Derived.ShutString
import Derived.ChangeOld
import Derived.Lib.SmallJoins
import Derived.Deep.Slices
import Derived.Deep.Fields
namespace Go.Proofs.YtkhkdnmpbfmmeaaDoor
open Go.RowKit Go.ChangeShapes Go.WideShapes Go.ChangeAt Go.Deep

section
variable {H : Type} {enc : TypeId × Value → H} {P : Program} {w : World} {base : Nat} {spare : Nat → Bool} {held : Bool}
theorem ri_of_trod {t e : TypeId} {fuel : Nat} {c : Value} {y : DataW H × List MemPlace} (ht : P.underlying t = some (.slice e)) (he : P.underlying e = some (.int .i64)) (hc : P.cellsOf e = 1)
    (h : DataW.trod enc P w base spare held fuel t [c] = some y) : ∃ A n k xs, c = .slice A n k ∧ RI w A n k xs := by
  rcases open_ints ht he hc h with ⟨hcs, _⟩ | ⟨x, l, k, zs, hcs, _, hl, hm, hz, _, hcell, _⟩
  · injection hcs with h1 _
    exact ⟨none, 0, 0, [], h1, RI.of_nil⟩
  · injection hcs with h1 _
    refine ⟨some x, l, k, zs.take l, h1, ?_⟩
    by_cases hs : spare x.block = true
    · rw [hs] at hz
      exact RI.of_cells hl hm (by simpa using hz) hcell
    · have hzl : zs.length = l := by simpa [hs] using hz
      exact RI.of_part hl hm hzl hcell
end
end Go.Proofs.YtkhkdnmpbfmmeaaDoor
