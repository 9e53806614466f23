/- slices.Sort and slices.Compact at []int64, over a row of the call's own. -/
import Derived.Test.YtlmhhnplacejkaaRows
import Derived.Test.YtlmhhnplacejkaaLays
import Derived.Test.YtlmhhnplacejkaaGrid
import Derived.Sort.OwnSortedInts
namespace Go.Proofs.Ytlmhhnplacejkaa
open Go.RowKit Go.Sort

/-- the list in order -/
def sortL (xs : List Int) : List Int := xs.mergeSort fun x y => decide (x ≤ y)
theorem sortL_len (xs : List Int) : (sortL xs).length = xs.length := by unfold sortL; simp
theorem sortL_mem {xs : List Int} {x : Int} : x ∈ sortL xs ↔ x ∈ xs := by unfold sortL; simp
theorem sortL_pair (xs : List Int) : (sortL xs).Pairwise (· ≤ ·) := by
  have h := List.pairwise_mergeSort (le := fun x y : Int => decide (x ≤ y)) (fun a b c h1 h2 => decide_eq_true (Int.le_trans (of_decide_eq_true h1) (of_decide_eq_true h2))) (fun a b => by
    rcases Int.le_total a b with h | h
    · simp [h]
    · simp [h]) xs
  exact h.imp (fun h => of_decide_eq_true h)

theorem row_world {w : World} {g lo c n : Nat} {xs ts : List Int} {os : Array Obj} (h : OI 2 w lo (.slice (some ⟨g, 0, none⟩) xs.length c) xs) (hl : ts.length = xs.length) :
    OI 2 (grow (putRow (Value.int .i64) (Sort.ahead w n) g 0 ts.toArray) os) lo (.slice (some ⟨g, 0, none⟩) xs.length c) ts ∧ Chg (fun b => b = g) w (grow (putRow (Value.int .i64) (Sort.ahead w n) g 0 ts.toArray) os) := by
  refine ⟨?_, ?_⟩
  · rcases h.2 with ⟨h1, _⟩ | ⟨g', cap, cur, h1, hb, h2, h3, h4, h5, h6⟩
    · cases h1
    · injection h1 with e1 e2 e3
      injection e1 with e1
      injection e1 with e1
      subst e1; subst e3
      have := ownsRow_sortedI (n := n) (os := os) hl hb h2 h3 h4 h5
      unfold OI
      rw [hl]
      exact this
  · have hg := grownBy_sortedI (w := w) (g := g) (n := n) (os := os) ts.toArray
    exact ⟨hg.os, hg.tape, hg.output, hg.size, fun k hk hne => hg.block k hk (fun e => hne (by injection e))⟩
theorem row_holds {w : World} {g lo c : Nat} {xs : List Int} (h : OI 2 w lo (.slice (some ⟨g, 0, none⟩) xs.length c) xs) : Holds (Value.int .i64) w g 0 xs.toArray := fun j hj => by
  have hj' : j < xs.length := by simpa using hj
  refine ⟨?_, ?_⟩
  · rw [Nat.zero_add, h.cellAt hj']
    congr 2
    simp [gi, hj']
  · rw [Nat.zero_add]
    exact h.hot rfl
theorem row_lt {w : World} {g lo c : Nat} {xs : List Int} (h : OI 2 w lo (.slice (some ⟨g, 0, none⟩) xs.length c) xs) : g < w.heap.size := (h.lt g rfl).2

theorem slicesSort {lo g c : Nat} {xs : List Int} (w : World) (h : OI 2 w lo (.slice (some ⟨g, 0, none⟩) xs.length c) xs) (hs : xs.length ≤ 4194304) :
    Calls Try.prog 109 #[.slice (some ⟨g, 0, none⟩) xs.length c] w fun e w' => e = .returned (.tuple #[]) ∧ OI 2 w' lo (.slice (some ⟨g, 0, none⟩) xs.length c) (sortL xs) ∧ Chg (fun b => b = g) w w' := by
  have hc := AnyM.slices_Sort_int Try.lSort g 0 c xs w (row_holds h) (row_lt h) (by omega)
  change Calls Try.prog 109 _ _ _ at hc
  refine hc.mono ?_
  rintro e w' ⟨he, n, os, rfl⟩
  exact ⟨he, row_world h (sortL_len xs)⟩

/-- without its repetitions -/
def compL (xs : List Int) : List Int := Lib.compact xs
theorem slicesCompact {lo g c : Nat} {xs : List Int} (w : World) (h : OI 2 w lo (.slice (some ⟨g, 0, none⟩) xs.length c) xs) :
    Calls Try.prog 141 #[.slice (some ⟨g, 0, none⟩) xs.length c] w fun e w' => e = .returned (.slice (some ⟨g, 0, none⟩) (compL xs).length c) ∧ OI 2 w' lo (.slice (some ⟨g, 0, none⟩) (compL xs).length c) (compL xs) ∧ Chg (fun b => b = g) w w' := by
  have hr := h.reads
  have hl : (compL xs).length ≤ xs.length := by
    unfold compL Lib.compact Lib.compactUpTo
    rw [List.length_map]
    exact Nat.le_trans (List.length_filter_le _ _) (by simp)
  have hc := AnyG.slices_Compact_int Try.lCompact g 0 c xs w (row_holds h) (by have := hr.cap; have := hr.top; omega) hr.cap
  change Calls Try.prog 141 _ _ _ at hc
  refine hc.mono ?_
  rintro e w' ⟨he, q, rfl⟩
  have key := row_world (n := q) (os := #[]) (ts := compL xs ++ List.replicate (xs.length - (compL xs).length) 0) h (by rw [List.length_append, List.length_replicate]; omega)
  have e0 : ∀ W : World, grow W #[] = W := fun W => by simp [grow]
  rw [e0] at key
  refine ⟨he, ?_, key.2⟩
  rcases key.1.2 with ⟨h1, _⟩ | ⟨g', cap, cur, h1, hb, h2, h3, h4, h5, h6⟩
  · cases h1
  · injection h1 with e1 e2 e3
    injection e1 with e1
    injection e1 with e1
    subst e1; subst e3
    refine ⟨by simp, .inr ⟨g, c, cur, rfl, hb, h2, Nat.le_trans hl hr.cap, h4, h5, ?_⟩⟩
    have h7 : (cur.toList.take (xs.length * 1)).take (compL xs).length = ((compL xs ++ List.replicate (xs.length - (compL xs).length) 0).map (Value.int .i64)).take (compL xs).length := by
      rw [← h6]
      congr 2
      rw [List.length_append, List.length_replicate]; omega
    rw [List.take_take, Nat.mul_one, Nat.min_eq_left hl] at h7
    rw [Nat.mul_one, h7, List.map_append, List.take_append_of_le_length (by simp), List.take_of_length_le (by simp)]

/-! ### a list in order, without its repetitions -/
theorem comp_asc {xs : List Int} (h : xs.Pairwise (· ≤ ·)) : (compL xs).Pairwise (· < ·) ∧ ∀ y, y ∈ compL xs ↔ y ∈ xs := by
  have le : ∀ i j, i ≤ j → j < xs.length → xs[i]! ≤ xs[j]! := fun i j h1 h2 => by
    rcases Nat.eq_or_lt_of_le h1 with e | e
    · subst e; exact Int.le_refl _
    · rw [getElem!_pos xs i (by omega), getElem!_pos xs j h2]
      exact List.pairwise_iff_getElem.1 h i j (by omega) h2 e
  have arr : ∀ i, xs.toArray[i]! = xs[i]! := fun i => by
    rcases Nat.lt_or_ge i xs.length with h1 | h1
    · rw [getElem!_pos xs.toArray i (by simpa using h1), getElem!_pos xs i h1, List.getElem_toArray]
    · rw [getElem!_neg xs.toArray i (by simpa using h1), getElem!_neg xs i (by omega)]
  unfold compL Lib.compact Lib.compactUpTo
  constructor
  · rw [List.pairwise_map]
    refine List.Pairwise.imp_of_mem ?_ ((List.pairwise_lt_range (n := xs.length)).filter _)
    intro i j hi hj hij
    rw [List.mem_filter, List.mem_range] at hi hj
    have hk := hj.2
    have hne : xs.toArray[j]! ≠ xs.toArray[j - 1]! := fun e => by
      rw [Lib.keeps_neg (by omega) e] at hk; cases hk
    rw [arr, arr] at hne ⊢
    have h1 := le i (j - 1) (by omega) (by omega)
    have h2 := le (j - 1) j (by omega) hj.1
    omega
  · intro y
    rw [List.mem_map]
    constructor
    · rintro ⟨i, hi, rfl⟩
      rw [List.mem_filter, List.mem_range] at hi
      rw [arr, getElem!_pos xs i hi.1]
      exact List.getElem_mem hi.1
    · intro hy
      obtain ⟨i, hi, e⟩ := List.getElem_of_mem hy
      have key : ∀ i, i < xs.length → xs[i]! = y → ∃ a, a ∈ (List.range xs.length).filter (Lib.keeps xs.toArray) ∧ xs.toArray[a]! = y := by
        intro i
        induction i with
        | zero =>
          intro h1 h2
          refine ⟨0, ?_, by rw [arr]; exact h2⟩
          rw [List.mem_filter, List.mem_range]
          exact ⟨h1, Lib.keeps_lt_one _ 0 (by omega)⟩
        | succ i ih =>
          intro h1 h2
          by_cases e : xs[i]! = y
          · exact ih (by omega) e
          · refine ⟨i + 1, ?_, by rw [arr]; exact h2⟩
            rw [List.mem_filter, List.mem_range]
            exact ⟨h1, Lib.keeps_pos (by rw [arr, arr, h2, Nat.add_sub_cancel]; exact fun c => e c.symm)⟩
      exact key i hi (by rw [getElem!_pos xs i hi]; exact e)
theorem compL_len (xs : List Int) : (compL xs).length ≤ xs.length := by
  unfold compL Lib.compact Lib.compactUpTo
  rw [List.length_map]
  exact Nat.le_trans (List.length_filter_le _ _) (by simp)
end Go.Proofs.Ytlmhhnplacejkaa
