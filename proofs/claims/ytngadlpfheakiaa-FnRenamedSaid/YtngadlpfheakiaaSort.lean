/- slices.Sort and slices.Compact at []int64, over a row of the call's own. -/
import Derived.Test.YtngadlpfheakiaaRows
import Derived.Test.YtngadlpfheakiaaLays
import Derived.Test.YtngadlpfheakiaaGrid
import Derived.Sort.OwnSortedInts
namespace Go.Proofs.Ytngadlpfheakiaa
open Go.RowKit Go.Sort

/-- the list in order -/
def sortL (xs : List Int) : List Int := xs.mergeSort fun x y => decide (x ≤ y)
theorem sortL_len (xs : List Int) : (sortL xs).length = xs.length := by unfold sortL; simp
theorem sortL_mem {xs : List Int} {x : Int} : x ∈ sortL xs ↔ x ∈ xs := by unfold sortL; simp
theorem sortL_pair (xs : List Int) : (sortL xs).Pairwise (· ≤ ·) := by
  have h := List.pairwise_mergeSort (le := fun x y : Int => decide (x ≤ y)) (fun a b c h1 h2 => decide_eq_true (Int.le_trans (of_decide_eq_true h1) (of_decide_eq_true h2))) (fun a b => by
    rcases Int.le_total a b with h | h
    · simp [h]
    · simp [h]) xs
  exact h.imp (fun h => of_decide_eq_true h)

theorem row_world {w : World} {g lo c n : Nat} {xs ts : List Int} {os : Array Obj} (h : OI 2 w lo (.slice (some ⟨g, 0, none⟩) xs.length c) xs) (hl : ts.length = xs.length) :
    OI 2 (grow (putRow (Value.int .i64) (Sort.ahead w n) g 0 ts.toArray) os) lo (.slice (some ⟨g, 0, none⟩) xs.length c) ts ∧ Chg (fun b => b = g) w (grow (putRow (Value.int .i64) (Sort.ahead w n) g 0 ts.toArray) os) := by
  refine ⟨?_, ?_⟩
  · rcases h.2 with ⟨h1, _⟩ | ⟨g', cap, cur, h1, hb, h2, h3, h4, h5, h6⟩
    · cases h1
    · injection h1 with e1 e2 e3
      injection e1 with e1
      injection e1 with e1
      subst e1; subst e3
      have := ownsRow_sortedI (n := n) (os := os) hl hb h2 h3 h4 h5
      unfold OI
      rw [hl]
      exact this
  · have hg := grownBy_sortedI (w := w) (g := g) (n := n) (os := os) ts.toArray
    exact ⟨hg.os, hg.tape, hg.output, hg.size, fun k hk hne => hg.block k hk (fun e => hne (by injection e))⟩
theorem row_holds {w : World} {g lo c : Nat} {xs : List Int} (h : OI 2 w lo (.slice (some ⟨g, 0, none⟩) xs.length c) xs) : Holds (Value.int .i64) w g 0 xs.toArray := fun j hj => by
  have hj' : j < xs.length := by simpa using hj
  refine ⟨?_, ?_⟩
  · rw [Nat.zero_add, h.cellAt hj']
    congr 2
    simp [gi, hj']
  · rw [Nat.zero_add]
    exact h.hot rfl
theorem row_lt {w : World} {g lo c : Nat} {xs : List Int} (h : OI 2 w lo (.slice (some ⟨g, 0, none⟩) xs.length c) xs) : g < w.heap.size := (h.lt g rfl).2

theorem slicesSort {lo g c : Nat} {xs : List Int} (w : World) (h : OI 2 w lo (.slice (some ⟨g, 0, none⟩) xs.length c) xs) (hs : xs.length ≤ 4194304) :
    Calls Try.prog 48 #[.slice (some ⟨g, 0, none⟩) xs.length c] w fun e w' => e = .returned (.tuple #[]) ∧ OI 2 w' lo (.slice (some ⟨g, 0, none⟩) xs.length c) (sortL xs) ∧ Chg (fun b => b = g) w w' := by
  have hc := AnyM.slices_Sort_int Try.lSort g 0 c xs w (row_holds h) (row_lt h) (by omega)
  change Calls Try.prog 48 _ _ _ at hc
  refine hc.mono ?_
  rintro e w' ⟨he, n, os, rfl⟩
  exact ⟨he, row_world h (sortL_len xs)⟩

/-! ### a list in order, without its repetitions -/
end Go.Proofs.Ytngadlpfheakiaa
