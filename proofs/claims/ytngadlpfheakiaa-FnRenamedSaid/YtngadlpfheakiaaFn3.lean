/- Contracts: impl.isRecord, impl.RecordOk, laws.toInt64S. -/
import Derived.Test.YtngadlpfheakiaaFn2
namespace Go.Proofs.Ytngadlpfheakiaa
open Go.RowKit

theorem infoB : (Try.prog.info? 4).map (fun i => (i.zero, i.size, i.bytes)) = some (some (.bool false), 1, 1) := by kernel_rfl
end Go.Proofs.Ytngadlpfheakiaa
