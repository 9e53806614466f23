/- Plans: noPlan, firstMoves, l15Least. -/
import Derived.Test.YtkhkdnmpbfmmeaaDoorGreat
import Derived.Test.YtkhkdnmpbfmmeaaDoorApp
namespace Go.Proofs.YtkhkdnmpbfmmeaaDoor
open Go.RowKit

def fill (f : Nat → Int) (n : Nat) : List Int := (List.range n).map f
theorem fill_len (f : Nat → Int) (n : Nat) : (fill f n).length = n := by simp [fill]
theorem fill_at {f : Nat → Int} {n i : Nat} (h : i < n) : gi (fill f n) i = f i := by
  rw [gi_get (by rw [fill_len]; exact h)]; simp [fill]
/-! ### the first successor that is allowed -/
end Go.Proofs.YtkhkdnmpbfmmeaaDoor
