/- The attractor's plan: pullIn, PullIn; ReachPlan. -/
import Derived.Test.YtngadlpfheakiaaAttr
import Derived.Test.YtngadlpfheakiaaPlan2
namespace Go.Proofs.Ytngadlpfheakiaa
open Go.RowKit

end Go.Proofs.Ytngadlpfheakiaa
