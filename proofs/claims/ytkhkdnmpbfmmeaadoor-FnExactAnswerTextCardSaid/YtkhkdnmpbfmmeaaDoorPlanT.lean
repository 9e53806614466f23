/- PlanText, spec and impl: contracts. -/
import Derived.Test.YtkhkdnmpbfmmeaaDoorTxtL
import Derived.Test.YtkhkdnmpbfmmeaaDoorFn5
namespace Go.Proofs.YtkhkdnmpbfmmeaaDoor
open Go.RowKit

theorem mkT_len {u : Int} (h1 : u < 1000000000) : (mkT u).length ≤ 9 := by
  unfold mkT
  split
  · simp
  · exact dec_len9 (by omega)
def marks (us : List Int) : List ByteArray := us.map fun u => tx (mkT u)
end Go.Proofs.YtkhkdnmpbfmmeaaDoor
