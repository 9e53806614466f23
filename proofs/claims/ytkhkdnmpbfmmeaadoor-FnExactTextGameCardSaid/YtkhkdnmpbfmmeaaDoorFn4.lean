/- Contracts: szInt64S; sz, to, eq of a struct of two slices. -/
import Derived.Test.YtkhkdnmpbfmmeaaDoorFn3
namespace Go.Proofs.YtkhkdnmpbfmmeaaDoor
open Go.RowKit

end Go.Proofs.YtkhkdnmpbfmmeaaDoor
