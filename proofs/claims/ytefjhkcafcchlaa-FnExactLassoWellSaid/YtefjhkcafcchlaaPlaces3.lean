/- toPlaceS: a copy in new memory, no block shared. -/
import Derived.Test.YtefjhkcafcchlaaPlaces2
namespace Go.Proofs.Ytefjhkcafcchlaa
open Go.RowKit

/-- the j-th slot of a list of places laid flat: nothing for a number -/
def fq (ps : List PlaceD) (j : Nat) : List Int := (gq ps (j / 2)).2
theorem made_place (n : Nat) : (madeCells (Value.agg #[.int .i64 0, .slice none 0 0]).cells (n * 2)).toList = (List.range (n * 2)).map (fun i => if i % 2 = 0 then .int .i64 0 else .slice none 0 0) := by
  refine List.ext_getElem (by simp [madeCells]) fun i h1 h2 => ?_
  simp only [madeCells, Value.cells, Array.toList_map, List.getElem_map, Array.getElem_toList, Array.getElem_range, List.getElem_range]
  have : i % 2 = 0 ∨ i % 2 = 1 := by omega
  rcases this with h | h <;> simp [h]
theorem gv_made {n i : Nat} (h : i < n * 2) : gv ((List.range (n * 2)).map (fun i => if i % 2 = 0 then Value.int .i64 0 else .slice none 0 0)) i = if i % 2 = 0 then .int .i64 0 else .slice none 0 0 := by
  rw [gv_get (by simpa using h), List.getElem_map, List.getElem_range]

end Go.Proofs.Ytefjhkcafcchlaa
