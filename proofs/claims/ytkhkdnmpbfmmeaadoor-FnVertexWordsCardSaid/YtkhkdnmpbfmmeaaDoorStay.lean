/- l15Stay, stayIn, StayWon: spec and impl. -/
import Derived.Test.YtkhkdnmpbfmmeaaDoorGreat
import Derived.Deep.RegionHeld3
namespace Go.Proofs.YtkhkdnmpbfmmeaaDoor
open Go.RowKit

/-- the marks of the greatest set that who need not leave -/
noncomputable def stayM (o : List Int) (n : List (List Int)) (who : Int) (s : List Int) : List Bool := gfp (intoB o n who) o.length (mkM o.length s)
end Go.Proofs.YtkhkdnmpbfmmeaaDoor
