/- The lines of a text: l13Lines, linesOf: contracts. -/
import Derived.Test.YtkhkdnmpbfmmeaaDoorTextP
import Derived.Test.YtkhkdnmpbfmmeaaDoorAnsT
import Derived.StillTailTactics
import Derived.Test.YtkhkdnmpbfmmeaaDoorApp
namespace Go.Proofs.YtkhkdnmpbfmmeaaDoor
open Go.RowKit

end Go.Proofs.YtkhkdnmpbfmmeaaDoor
