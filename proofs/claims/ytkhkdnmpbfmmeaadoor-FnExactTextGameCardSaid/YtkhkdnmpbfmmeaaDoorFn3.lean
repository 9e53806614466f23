/- Contracts: impl.isRecord, impl.RecordOk, laws.toInt64S. -/
import Derived.Test.YtkhkdnmpbfmmeaaDoorFn2
namespace Go.Proofs.YtkhkdnmpbfmmeaaDoor
open Go.RowKit

end Go.Proofs.YtkhkdnmpbfmmeaaDoor
