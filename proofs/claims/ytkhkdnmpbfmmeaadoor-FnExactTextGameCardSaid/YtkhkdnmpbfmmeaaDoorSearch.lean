/- Library: slices.Index, slices.Contains, slices.BinarySearch at int64; cmp.Less. -/
import Derived.Test.YtkhkdnmpbfmmeaaDoorFn6
import Derived.Lib.SlicesSearch
namespace Go.Proofs.YtkhkdnmpbfmmeaaDoor
open Go.RowKit

end Go.Proofs.YtkhkdnmpbfmmeaaDoor
