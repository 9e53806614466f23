/- Library: slices.Index, slices.Contains, slices.BinarySearch at int64; cmp.Less. -/
import Derived.Test.YtkhkdnmpbfmmeaaDoorFn6
import Derived.Lib.SlicesSearch
namespace Go.Proofs.YtkhkdnmpbfmmeaaDoor
open Go.RowKit

theorem firstI_ge (p : Nat → Bool) (n : Nat) : -1 ≤ firstI p n := by
  induction n with
  | zero => simp [firstI]
  | succ n ih => unfold firstI; split <;> (try split) <;> omega
end Go.Proofs.YtkhkdnmpbfmmeaaDoor
