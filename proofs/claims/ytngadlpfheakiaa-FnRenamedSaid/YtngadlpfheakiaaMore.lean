/- l14More: a game with one more vertex; the order of the appends' parts is open. -/
import Derived.Test.YtngadlpfheakiaaVertex
namespace Go.Proofs.Ytngadlpfheakiaa
open Go.RowKit

end Go.Proofs.Ytngadlpfheakiaa
