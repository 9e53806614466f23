/- l14More: a game with one more vertex; the order of the appends' parts is open. -/
import Derived.Test.YtkhkdnmpbfmmeaaDoorVertex
namespace Go.Proofs.YtkhkdnmpbfmmeaaDoor
open Go.RowKit

end Go.Proofs.YtkhkdnmpbfmmeaaDoor
