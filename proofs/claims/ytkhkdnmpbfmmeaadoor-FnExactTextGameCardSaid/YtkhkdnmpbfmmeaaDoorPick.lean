/- lists that a loop builds: element f i where p i holds. Plain. -/
import Derived.Test.YtkhkdnmpbfmmeaaDoorApp
namespace Go.Proofs.YtkhkdnmpbfmmeaaDoor
open Go.RowKit

end Go.Proofs.YtkhkdnmpbfmmeaaDoor
