/- Readers of numbers and of players, spec and impl: contracts. -/
import Derived.Test.YtkhkdnmpbfmmeaaDoorTxtP
namespace Go.Proofs.YtkhkdnmpbfmmeaaDoor
open Go.RowKit

/-- the names of the players stand where start-up laid them -/
def PN (w : World) : Prop := w.cell? ⟨0, 0, none⟩ = some (.string { data := #[101, 118, 101, 110] }) ∧ w.cell? ⟨0, 1, none⟩ = some (.string { data := #[111, 100, 100] })
theorem PN.keep {w w' : World} (h : PN w) (k : Keeps w w') : PN w' := ⟨k _ _ h.1, k _ _ h.2⟩

@[go_sem] theorem index_name0 (a b : ByteArray) (w : World) : (Instr.index 72 (.agg #[.string a, .string b]) (.int .i64 0)).run Tryd.prog w = .ok (.string a) w := by kernel_rfl
@[go_sem] theorem index_name1 (a b : ByteArray) (w : World) : (Instr.index 72 (.agg #[.string a, .string b]) (.int .i64 1)).run Tryd.prog w = .ok (.string b) w := by kernel_rfl
end Go.Proofs.YtkhkdnmpbfmmeaaDoor
