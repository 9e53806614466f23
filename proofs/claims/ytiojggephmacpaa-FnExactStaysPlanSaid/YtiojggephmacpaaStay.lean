/- l15Stay, stayIn, StayWon: spec and impl. -/
import Derived.Test.YtiojggephmacpaaGreat
import Derived.Deep.RegionHeld3
namespace Go.Proofs.Ytiojggephmacpaa
open Go.RowKit

/-- the marks of the greatest set that who need not leave -/
noncomputable def stayM (o : List Int) (n : List (List Int)) (who : Int) (s : List Int) : List Bool := gfp (intoB o n who) o.length (mkM o.length s)
noncomputable def stayR (o : List Int) (n : List (List Int)) (who : Int) (s : List Int) : List Int := if okA o n who s = true then listM (stayM o n who s) else []

end Go.Proofs.Ytiojggephmacpaa
