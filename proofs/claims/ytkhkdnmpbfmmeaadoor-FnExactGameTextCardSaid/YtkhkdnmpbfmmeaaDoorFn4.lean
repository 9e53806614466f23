/- Contracts: szInt64S; sz, to, eq of a struct of two slices. -/
import Derived.Test.YtkhkdnmpbfmmeaaDoorFn3
namespace Go.Proofs.YtkhkdnmpbfmmeaaDoor
open Go.RowKit

theorem szInts (A : Option Addr) (n c : Nat) (l : Int) (w : World) (h0 : 0 ≤ l) (h1 : l ≤ 1048576) (hn : n ≤ 9223372036854775807) :
    Calls Tryd.prog 47 #[.slice A n c, .int .i64 l] w fun e w' => e = .returned (.int .i64 (szF l n)) ∧ Qt w w' := by
  by_cases h : (n : Int) ≤ l
  · have E := Lib.hid (szF_yes h)
    go_enter Tryd.func47, Tryd.ntmps47
    go_wp2
    go_ret
    exact ⟨ret_i E.out.symm, Qt.refl _⟩
  · have E := Lib.hid (szF_no h)
    go_enter Tryd.func47, Tryd.ntmps47
    go_wp2
    go_ret
    exact ⟨ret_i E.out.symm, Qt.refl _⟩
end Go.Proofs.YtkhkdnmpbfmmeaaDoor
