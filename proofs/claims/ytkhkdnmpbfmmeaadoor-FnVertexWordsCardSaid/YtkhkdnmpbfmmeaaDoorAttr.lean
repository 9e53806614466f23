/- Attractors: AllOf, l3Ok, l3Attract, Attract, attract; ReachWon. -/
import Derived.Test.YtkhkdnmpbfmmeaaDoorRanks
import Derived.Test.YtkhkdnmpbfmmeaaDoorArenaL
namespace Go.Proofs.YtkhkdnmpbfmmeaaDoor
open Go.RowKit

noncomputable def attrL (o : List Int) (n : List (List Int)) (who : Int) (inn goal : List Int) : List Int := wonUp (ranksL o n who inn goal) o.length
end Go.Proofs.YtkhkdnmpbfmmeaaDoor
