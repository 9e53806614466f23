/- withVertex, l14More: a game with one more vertex. -/
import Derived.Test.YtkhkdnmpbfmmeaaDoorParMark
import Derived.Test.YtkhkdnmpbfmmeaaDoorApp
import Derived.Deep.RegionHeld3
import Derived.Deep.DeepMust
namespace Go.Proofs.YtkhkdnmpbfmmeaaDoor
open Go.RowKit

end Go.Proofs.YtkhkdnmpbfmmeaaDoor
