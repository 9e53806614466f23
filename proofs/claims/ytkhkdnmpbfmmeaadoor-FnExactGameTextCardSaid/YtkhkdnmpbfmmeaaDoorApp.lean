/- append of one int64 onto a row of the call's own: the walk's laws. append of a whole list onto a row of the call's own. -/
import Derived.Test.YtkhkdnmpbfmmeaaDoorPush
import Derived.Laws.AppendOwnNone
namespace Go.Proofs.YtkhkdnmpbfmmeaaDoor
open Go.RowKit

theorem OI.app {E : TypeId} {w : World} {lo n : Nat} {v : Value} {xs : List Int} {x : Int} (h : w.ownsRow lo E 1 v (n + 1) (xs.map (Value.int .i64) ++ [.int .i64 x])) (hn : n = xs.length) : OI E w lo v (xs ++ [x]) := by
  unfold OI
  rw [List.length_append, List.map_append, List.length_singleton, ← hn]
  exact h
theorem gv_app_lt {cs : List Value} {v : Value} {i : Nat} (h : i < cs.length) : gv (cs ++ [v]) i = gv cs i := by simp [gv, List.getElem?_append_left h]
theorem gv_app_eq {cs : List Value} {v : Value} : gv (cs ++ [v]) cs.length = v := by simp [gv]
theorem gl_app_lt {cs : List (List Int)} {v : List Int} {i : Nat} (h : i < cs.length) : gl (cs ++ [v]) i = gl cs i := by simp [gl, List.getElem?_append_left h]
theorem gl_app_eq {cs : List (List Int)} {v : List Int} : gl (cs ++ [v]) cs.length = v := by simp [gl]
theorem OL.app {E : TypeId} {w : World} {lo : Nat} {cs : List Value} {n : List (List Int)} {v : Value} {x : List Int} (h : OL E w lo cs (gl n)) (hv : OI E w lo v x) (hl : cs.length = n.length) : OL E w lo (cs ++ [v]) (gl (n ++ [x])) := by
  intro i hi
  rw [List.length_append, List.length_singleton] at hi
  by_cases e : i < cs.length
  · rw [gv_app_lt e, gl_app_lt (by omega)]
    exact h i e
  · obtain rfl : i = cs.length := by omega
    rw [gv_app_eq, hl, gl_app_eq]
    exact hv
theorem Dis.app {cs : List Value} {v : Value} (h : Dis cs) (hv : ∀ i, i < cs.length → Apart (gv cs i) v) : Dis (cs ++ [v]) := by
  intro i j hi hj hne
  rw [List.length_append, List.length_singleton] at hi hj
  by_cases e1 : i < cs.length
  · by_cases e2 : j < cs.length
    · rw [gv_app_lt e1, gv_app_lt e2]; exact h i j e1 e2 hne
    · obtain rfl : j = cs.length := by omega
      rw [gv_app_lt e1, gv_app_eq]; exact hv i e1
  · obtain rfl : i = cs.length := by omega
    rw [gv_app_eq, gv_app_lt (by omega)]
    exact (hv j (by omega)).symm


section
end
theorem OI.empty {E : TypeId} {w : World} {B : Nat} (hB : B ≤ w.heap.size) : OI E (w.alloc (.cells #[] E)) B (.slice (some ⟨w.heap.size, 0, none⟩) 0 0) [] := World.ownsRow_lit w #[] 0 hB (by decide) rfl
end Go.Proofs.YtkhkdnmpbfmmeaaDoor
namespace Go.Proofs.YtkhkdnmpbfmmeaaDoor
open Go.RowKit

section
variable {w : World} {P : Program}
end
end Go.Proofs.YtkhkdnmpbfmmeaaDoor
