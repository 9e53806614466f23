/- lists that a loop builds: element f i where p i holds. Plain. -/
import Derived.Test.YtkhkdnmpbfmmeaaDoorApp
namespace Go.Proofs.YtkhkdnmpbfmmeaaDoor
open Go.RowKit

/-- what the loop 'for i < k: if p i then append f i' has built -/
def pick (p : Nat → Bool) (f : Nat → Int) : Nat → List Int
  | 0 => []
  | k + 1 => if p k = true then pick p f k ++ [f k] else pick p f k
/-- 0, 1, .. n - 1 -/
def allL (n : Nat) : List Int := pick (fun _ => true) (fun i => (i : Int)) n
end Go.Proofs.YtkhkdnmpbfmmeaaDoor
