/- strings.Split, strings.Join: contracts. -/
import Derived.Test.YtkhkdnmpbfmmeaaDoorTxtC
namespace Go.Proofs.YtkhkdnmpbfmmeaaDoor
open Go.RowKit

/-- the library's own variable holds some number -/
def Max (w : World) : Prop := ∃ m, w.cell? ⟨1, 0, none⟩ = some (.int .i64 m)
theorem Max.keep {w w' : World} (h : Max w) (k : Keeps w w') : Max w' := by
  obtain ⟨m, hm⟩ := h
  exact ⟨m, k _ _ hm⟩

end Go.Proofs.YtkhkdnmpbfmmeaaDoor
