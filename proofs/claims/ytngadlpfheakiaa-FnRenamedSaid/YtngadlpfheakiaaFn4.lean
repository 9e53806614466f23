/- Contracts: szInt64S; sz, to, eq of a struct of two slices. -/
import Derived.Test.YtngadlpfheakiaaFn3
namespace Go.Proofs.Ytngadlpfheakiaa
open Go.RowKit

end Go.Proofs.Ytngadlpfheakiaa
