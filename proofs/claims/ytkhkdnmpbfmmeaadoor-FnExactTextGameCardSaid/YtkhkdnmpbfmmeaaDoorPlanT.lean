/- PlanText, spec and impl: contracts. -/
import Derived.Test.YtkhkdnmpbfmmeaaDoorTxtL
import Derived.Test.YtkhkdnmpbfmmeaaDoorFn5
namespace Go.Proofs.YtkhkdnmpbfmmeaaDoor
open Go.RowKit

def marks (us : List Int) : List ByteArray := us.map fun u => tx (mkT u)
end Go.Proofs.YtkhkdnmpbfmmeaaDoor
