/- Readers of numbers and of players, spec and impl: contracts. -/
import Derived.Test.YtkhkdnmpbfmmeaaDoorTxtP
namespace Go.Proofs.YtkhkdnmpbfmmeaaDoor
open Go.RowKit

def evB : List UInt8 := [101, 118, 101, 110]
def odB : List UInt8 := [111, 100, 100]
/-- the word of a player -/
def wo (o : Int) : List UInt8 := if o = 0 then evB else odB

theorem l13Who (o : Int) (w : World) :
    Calls Tryd.prog 49 #[.int .i64 o] w fun e w' => e = .returned (.string (tx (wo o))) ∧ Qt w w' := by
  by_cases h : o = 0
  · have E := Lib.hid (show wo o = evB from if_pos h)
    have h' : (o == 0) = true := by simp [h]
    clear h
    go_enter Tryd.func49, Tryd.ntmps49
    go_wp2
    go_ret
    exact ⟨by rw [E.out]; rfl, Qt.refl _⟩
  · have E := Lib.hid (show wo o = odB from if_neg h)
    have h' : (o == 0) = false := by simp [h]
    clear h
    go_enter Tryd.func49, Tryd.ntmps49
    go_wp2
    go_ret
    exact ⟨by rw [E.out]; rfl, Qt.refl _⟩

/-- the names of the players stand where start-up laid them -/
def PN (w : World) : Prop := w.cell? ⟨0, 0, none⟩ = some (.string { data := #[101, 118, 101, 110] }) ∧ w.cell? ⟨0, 1, none⟩ = some (.string { data := #[111, 100, 100] })
theorem PN.keep {w w' : World} (h : PN w) (k : Keeps w w') : PN w' := ⟨k _ _ h.1, k _ _ h.2⟩

@[go_sem] theorem index_name0 (a b : ByteArray) (w : World) : (Instr.index 72 (.agg #[.string a, .string b]) (.int .i64 0)).run Tryd.prog w = .ok (.string a) w := by kernel_rfl
@[go_sem] theorem index_name1 (a b : ByteArray) (w : World) : (Instr.index 72 (.agg #[.string a, .string b]) (.int .i64 1)).run Tryd.prog w = .ok (.string b) w := by kernel_rfl
end Go.Proofs.YtkhkdnmpbfmmeaaDoor
