/- Contracts of ShapeOk: spec and impl. -/
import Derived.Test.YtkhkdnmpbfmmeaaDoorFn4
namespace Go.Proofs.YtkhkdnmpbfmmeaaDoor
open Go.RowKit

end Go.Proofs.YtkhkdnmpbfmmeaaDoor
