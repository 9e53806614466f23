/- The attractor's plan: pullIn, PullIn; ReachPlan. -/
import Derived.Test.YtkhkdnmpbfmmeaaDoorAttr
import Derived.Test.YtkhkdnmpbfmmeaaDoorPlan2
namespace Go.Proofs.YtkhkdnmpbfmmeaaDoor
open Go.RowKit

end Go.Proofs.YtkhkdnmpbfmmeaaDoor
