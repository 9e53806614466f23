/- AnswerText, spec and impl: contracts. -/
import Derived.Test.YtkhkdnmpbfmmeaaDoorPlanT
import Derived.Test.YtkhkdnmpbfmmeaaDoorBytes
import Derived.Test.YtkhkdnmpbfmmeaaDoorLine
import Derived.Test.YtkhkdnmpbfmmeaaDoorTwo
import Derived.Deep.RegionHeld3
namespace Go.Proofs.YtkhkdnmpbfmmeaaDoor
open Go.RowKit

end Go.Proofs.YtkhkdnmpbfmmeaaDoor
