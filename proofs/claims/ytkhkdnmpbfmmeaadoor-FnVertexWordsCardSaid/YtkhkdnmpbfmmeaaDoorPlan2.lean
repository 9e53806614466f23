/- l15Least; StayPlan, spec and impl. StayPlan, spec and impl. -/
import Derived.Test.YtkhkdnmpbfmmeaaDoorPlan
import Derived.Test.YtkhkdnmpbfmmeaaDoorStay
import Derived.Test.YtkhkdnmpbfmmeaaDoorArenaL
namespace Go.Proofs.YtkhkdnmpbfmmeaaDoor
open Go.RowKit

end Go.Proofs.YtkhkdnmpbfmmeaaDoor
namespace Go.Proofs.YtkhkdnmpbfmmeaaDoor
open Go.RowKit

theorem gi_app_lt {xs : List Int} {x : Int} {i : Nat} (h : i < xs.length) : gi (xs ++ [x]) i = gi xs i := by simp [gi, List.getElem?_append_left h]
theorem gi_app_eq {xs : List Int} {x : Int} : gi (xs ++ [x]) xs.length = x := by simp [gi]
end Go.Proofs.YtkhkdnmpbfmmeaaDoor
