/- impl.AllOf, impl.lessOf. -/
import Derived.Test.YtkhkdnmpbfmmeaaDoorSearch
import Derived.Test.YtkhkdnmpbfmmeaaDoorPick
namespace Go.Proofs.YtkhkdnmpbfmmeaaDoor
open Go.RowKit

end Go.Proofs.YtkhkdnmpbfmmeaaDoor
