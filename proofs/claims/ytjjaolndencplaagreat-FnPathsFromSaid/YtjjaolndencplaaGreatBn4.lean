/- Texts that the proof reaches: Lays, Sort, LassoW, LassoW2, LassoW3, Beyond, Scc, Que, AftP, ParL, Game, RestP, BrkP, Aft, Prt, Edges. -/
import Derived.Test.YtjjaolndencplaaGreatBn3
import Derived.Shelf.SortM.Plain
import Derived.Shelf.SortM.SortNone
import Derived.Shelf.SlicesG.CompactI
import Derived.Shelf.SlSortCmp.Whole1
import Derived.Test.YtjjaolndencplaaGreatProg
import Derived.Test.YtjjaolndencplaaGreatRows
import Derived.Sort.OwnSortedInts
import Derived.IntWalk
import Derived.Deep.DeepCutAuto
namespace Go.Proofs.YtjjaolndencplaaGreat
open Go.Shelf
def Tryz.lSort_ren : Go.Shelf.Ren := ⟨fun | 5 => 63 | 8 => 77 | 7 => 76 | 19 => 90 | 20 => 91 | 10 => 82 | 11 => 83 | 12 => 84 | 13 => 85 | 14 => 86 | 15 => 87 | 16 => 70 | 17 => 88 | 18 => 89 | 30 => 100 | 31 => 101 | 32 => 102 | 33 => 103 | 34 => 104 | 35 => 80 | 40 => 108 | n => n, fun | 23 => 27 | 25 => 2 | 3 => 3 | 32 => 62 | 22 => 27 | 0 => 0 | 44 => 101 | 46 => 26 | 4 => 4 | 36 => 95 | 35 => 94 | 41 => 74 | 5 => 5 | 9 => 9 | 53 => 108 | 57 => 112 | 63 => 116 | 64 => 117 | n => n, fun | n => n⟩
theorem Tryz.lSort : Go.Proofs.SlLaysM.n5 Tryz.prog Tryz.lSort_ren := {
  mixed := by kernel_rfl
  f5 := ⟨Tryz.f63.name, by decide, Tryz.func63.trans (congrArg some (by kernel_rfl))⟩
  f7 := ⟨Tryz.f76.name, by decide, Tryz.func76.trans (congrArg some (by kernel_rfl))⟩
  f8 := Tryz.func77.trans (congrArg some (by kernel_rfl))
  f10 := ⟨Tryz.f82.name, by decide, Tryz.func82.trans (congrArg some (by kernel_rfl))⟩
  f11 := ⟨Tryz.f83.name, by decide, Tryz.func83.trans (congrArg some (by kernel_rfl))⟩
  f12 := ⟨Tryz.f84.name, by decide, Tryz.func84.trans (congrArg some (by kernel_rfl))⟩
  f13 := ⟨Tryz.f85.name, by decide, Tryz.func85.trans (congrArg some (by kernel_rfl))⟩
  f14 := ⟨Tryz.f86.name, by decide, Tryz.func86.trans (congrArg some (by kernel_rfl))⟩
  f15 := ⟨Tryz.f87.name, by decide, Tryz.func87.trans (congrArg some (by kernel_rfl))⟩
  f16 := ⟨Tryz.f70.name, by decide, Tryz.func70.trans (congrArg some (by kernel_rfl))⟩
  f17 := ⟨Tryz.f88.name, by decide, Tryz.func88.trans (congrArg some (by kernel_rfl))⟩
  f18 := ⟨Tryz.f89.name, by decide, Tryz.func89.trans (congrArg some (by kernel_rfl))⟩
  f19 := Tryz.func90.trans (congrArg some (by kernel_rfl))
  f20 := Tryz.func91.trans (congrArg some (by kernel_rfl))
  f30 := ⟨Tryz.f100.name, by decide, Tryz.func100.trans (congrArg some (by kernel_rfl))⟩
  f31 := Tryz.func101.trans (congrArg some (by kernel_rfl))
  f32 := Tryz.func102.trans (congrArg some (by kernel_rfl))
  f33 := ⟨Tryz.f103.name, by decide, Tryz.func103.trans (congrArg some (by kernel_rfl))⟩
  f34 := ⟨Tryz.f104.name, by decide, Tryz.func104.trans (congrArg some (by kernel_rfl))⟩
  f35 := ⟨Tryz.f80.name, by decide, Tryz.func80.trans (congrArg some (by kernel_rfl))⟩
  f40 := ⟨Tryz.f108.name, by decide, Tryz.func108.trans (congrArg some (by kernel_rfl))⟩
  t0 := Tryz.underlying0
  a0 := Tryz.isAgg0
  z0 := Tryz.sizeOf0
  v0 := Tryz.zeroValue0
  t3 := Tryz.underlying3
  a3 := Tryz.isAgg3
  z3 := Tryz.sizeOf3
  v3 := Tryz.zeroValue3
  t4 := Tryz.underlying4
  a4 := Tryz.isAgg4
  z4 := Tryz.sizeOf4
  v4 := Tryz.zeroValue4
  t5 := Tryz.underlying5
  a5 := Tryz.isAgg5
  z5 := Tryz.sizeOf5
  v5 := Tryz.zeroValue5
  t9 := Tryz.underlying9
  a9 := Tryz.isAgg9
  z9 := Tryz.sizeOf9
  v9 := Tryz.zeroValue9
  t22 := Tryz.underlying27
  a22 := Tryz.isAgg27
  z22 := Tryz.sizeOf27
  v22 := Tryz.zeroValue27
  t23 := Tryz.underlying27
  a23 := Tryz.isAgg27
  z23 := Tryz.sizeOf27
  v23 := Tryz.zeroValue27
  t25 := Tryz.underlying2
  a25 := Tryz.isAgg2
  z25 := Tryz.sizeOf2
  v25 := Tryz.zeroValue2
  t32 := Tryz.underlying62
  a32 := Tryz.isAgg62
  z32 := Tryz.sizeOf62
  v32 := Tryz.zeroValue62
  t35 := Tryz.underlying94
  a35 := Tryz.isAgg94
  z35 := Tryz.sizeOf94
  v35 := Tryz.zeroValue94
  t36 := Tryz.underlying95
  a36 := Tryz.isAgg95
  z36 := Tryz.sizeOf95
  v36 := Tryz.zeroValue95
  t41 := Tryz.underlying74
  a41 := Tryz.isAgg74
  z41 := Tryz.sizeOf74
  v41 := Tryz.zeroValue74
  t44 := Tryz.underlying101
  a44 := Tryz.isAgg101
  z44 := Tryz.sizeOf101
  v44 := Tryz.zeroValue101
  t46 := Tryz.underlying26
  a46 := Tryz.isAgg26
  z46 := Tryz.sizeOf26
  v46 := Tryz.zeroValue26
  t53 := Tryz.underlying108
  a53 := Tryz.isAgg108
  z53 := Tryz.sizeOf108
  v53 := Tryz.zeroValue108
  t57 := Tryz.underlying112
  a57 := Tryz.isAgg112
  z57 := Tryz.sizeOf112
  v57 := Tryz.zeroValue112
  t63 := Tryz.underlying116
  a63 := Tryz.isAgg116
  z63 := Tryz.sizeOf116
  v63 := Tryz.zeroValue116
  t64 := Tryz.underlying117
  a64 := Tryz.isAgg117
  z64 := Tryz.sizeOf117
  v64 := Tryz.zeroValue117 }
def Tryz.lCompact_ren : Go.Shelf.Ren := ⟨fun | 43 => 64 | n => n, fun | 22 => 27 | 23 => 2 | 3 => 3 | 4 => 4 | 0 => 0 | n => n, fun | n => n⟩
theorem Tryz.lCompact : Go.Proofs.SlLaysN.n43 Tryz.prog Tryz.lCompact_ren := {
  mixed := by kernel_rfl
  f43 := ⟨Tryz.f64.name, by decide, Tryz.func64.trans (congrArg some (by kernel_rfl))⟩
  t0 := Tryz.underlying0
  a0 := Tryz.isAgg0
  z0 := Tryz.sizeOf0
  v0 := Tryz.zeroValue0
  t3 := Tryz.underlying3
  a3 := Tryz.isAgg3
  z3 := Tryz.sizeOf3
  v3 := Tryz.zeroValue3
  t4 := Tryz.underlying4
  a4 := Tryz.isAgg4
  z4 := Tryz.sizeOf4
  v4 := Tryz.zeroValue4
  t22 := Tryz.underlying27
  a22 := Tryz.isAgg27
  z22 := Tryz.sizeOf27
  v22 := Tryz.zeroValue27
  t23 := Tryz.underlying2
  a23 := Tryz.isAgg2
  z23 := Tryz.sizeOf2
  v23 := Tryz.zeroValue2
  i23 := by kernel_rfl }
def Tryz.lSortF_ren : Go.Shelf.Ren := ⟨fun | 6 => 68 | 15 => 77 | 14 => 78 | 28 => 90 | 29 => 91 | 20 => 92 | 21 => 93 | 22 => 94 | 23 => 95 | 24 => 96 | 25 => 97 | 26 => 98 | 27 => 99 | 46 => 105 | 47 => 101 | 48 => 102 | 49 => 106 | 50 => 107 | 57 => 109 | n => n, fun | 22 => 28 | 24 => 27 | 25 => 83 | 3 => 3 | 39 => 62 | 0 => 0 | 53 => 101 | 55 => 26 | 4 => 4 | 46 => 95 | 45 => 94 | 50 => 74 | 5 => 5 | 9 => 9 | 66 => 108 | 70 => 112 | 76 => 116 | 77 => 117 | n => n, fun | n => n⟩
theorem Tryz.lSortF : Go.Proofs.SlLaysF.n6 Tryz.prog Tryz.lSortF_ren := {
  mixed := by kernel_rfl
  f6 := ⟨Tryz.f68.name, by decide, Tryz.func68.trans (congrArg some (by kernel_rfl))⟩
  f14 := ⟨Tryz.f78.name, by decide, Tryz.func78.trans (congrArg some (by kernel_rfl))⟩
  f15 := Tryz.func77.trans (congrArg some (by kernel_rfl))
  f20 := ⟨Tryz.f92.name, by decide, Tryz.func92.trans (congrArg some (by kernel_rfl))⟩
  f21 := ⟨Tryz.f93.name, by decide, Tryz.func93.trans (congrArg some (by kernel_rfl))⟩
  f22 := ⟨Tryz.f94.name, by decide, Tryz.func94.trans (congrArg some (by kernel_rfl))⟩
  f23 := ⟨Tryz.f95.name, by decide, Tryz.func95.trans (congrArg some (by kernel_rfl))⟩
  f24 := ⟨Tryz.f96.name, by decide, Tryz.func96.trans (congrArg some (by kernel_rfl))⟩
  f25 := ⟨Tryz.f97.name, by decide, Tryz.func97.trans (congrArg some (by kernel_rfl))⟩
  f26 := ⟨Tryz.f98.name, by decide, Tryz.func98.trans (congrArg some (by kernel_rfl))⟩
  f27 := ⟨Tryz.f99.name, by decide, Tryz.func99.trans (congrArg some (by kernel_rfl))⟩
  f28 := Tryz.func90.trans (congrArg some (by kernel_rfl))
  f29 := Tryz.func91.trans (congrArg some (by kernel_rfl))
  f46 := ⟨Tryz.f105.name, by decide, Tryz.func105.trans (congrArg some (by kernel_rfl))⟩
  f47 := Tryz.func101.trans (congrArg some (by kernel_rfl))
  f48 := Tryz.func102.trans (congrArg some (by kernel_rfl))
  f49 := ⟨Tryz.f106.name, by decide, Tryz.func106.trans (congrArg some (by kernel_rfl))⟩
  f50 := ⟨Tryz.f107.name, by decide, Tryz.func107.trans (congrArg some (by kernel_rfl))⟩
  f57 := ⟨Tryz.f109.name, by decide, Tryz.func109.trans (congrArg some (by kernel_rfl))⟩
  t0 := Tryz.underlying0
  a0 := Tryz.isAgg0
  z0 := Tryz.sizeOf0
  v0 := Tryz.zeroValue0
  t3 := Tryz.underlying3
  a3 := Tryz.isAgg3
  z3 := Tryz.sizeOf3
  v3 := Tryz.zeroValue3
  t4 := Tryz.underlying4
  a4 := Tryz.isAgg4
  z4 := Tryz.sizeOf4
  v4 := Tryz.zeroValue4
  t5 := Tryz.underlying5
  a5 := Tryz.isAgg5
  z5 := Tryz.sizeOf5
  v5 := Tryz.zeroValue5
  t9 := Tryz.underlying9
  a9 := Tryz.isAgg9
  z9 := Tryz.sizeOf9
  v9 := Tryz.zeroValue9
  t22 := Tryz.underlying28
  a22 := Tryz.isAgg28
  z22 := Tryz.sizeOf28
  v22 := Tryz.zeroValue28
  a24 := Tryz.isAgg27
  z24 := Tryz.sizeOf27
  t25 := Tryz.underlying83
  a25 := Tryz.isAgg83
  z25 := Tryz.sizeOf83
  v25 := Tryz.zeroValue83
  t39 := Tryz.underlying62
  a39 := Tryz.isAgg62
  z39 := Tryz.sizeOf62
  v39 := Tryz.zeroValue62
  t45 := Tryz.underlying94
  a45 := Tryz.isAgg94
  z45 := Tryz.sizeOf94
  v45 := Tryz.zeroValue94
  t46 := Tryz.underlying95
  a46 := Tryz.isAgg95
  z46 := Tryz.sizeOf95
  v46 := Tryz.zeroValue95
  t50 := Tryz.underlying74
  a50 := Tryz.isAgg74
  z50 := Tryz.sizeOf74
  v50 := Tryz.zeroValue74
  t53 := Tryz.underlying101
  a53 := Tryz.isAgg101
  z53 := Tryz.sizeOf101
  v53 := Tryz.zeroValue101
  t55 := Tryz.underlying26
  a55 := Tryz.isAgg26
  z55 := Tryz.sizeOf26
  v55 := Tryz.zeroValue26
  t66 := Tryz.underlying108
  a66 := Tryz.isAgg108
  z66 := Tryz.sizeOf108
  v66 := Tryz.zeroValue108
  t70 := Tryz.underlying112
  a70 := Tryz.isAgg112
  z70 := Tryz.sizeOf112
  v70 := Tryz.zeroValue112
  t76 := Tryz.underlying116
  a76 := Tryz.isAgg116
  z76 := Tryz.sizeOf116
  v76 := Tryz.zeroValue116
  t77 := Tryz.underlying117
  a77 := Tryz.isAgg117
  z77 := Tryz.sizeOf117
  v77 := Tryz.zeroValue117 }
end Go.Proofs.YtjjaolndencplaaGreat
namespace Go.Proofs.YtjjaolndencplaaGreat
open Go.RowKit Go.Sort

/-- the list in order -/
def sortL (xs : List Int) : List Int := xs.mergeSort fun x y => decide (x ≤ y)
theorem sortL_len (xs : List Int) : (sortL xs).length = xs.length := by unfold sortL; simp
theorem sortL_mem {xs : List Int} {x : Int} : x ∈ sortL xs ↔ x ∈ xs := by unfold sortL; simp
theorem sortL_pair (xs : List Int) : (sortL xs).Pairwise (· ≤ ·) := by
  have h := List.pairwise_mergeSort (le := fun x y : Int => decide (x ≤ y)) (fun a b c h1 h2 => decide_eq_true (Int.le_trans (of_decide_eq_true h1) (of_decide_eq_true h2))) (fun a b => by
    rcases Int.le_total a b with h | h
    · simp [h]
    · simp [h]) xs
  exact h.imp (fun h => of_decide_eq_true h)

theorem row_world {w : World} {g lo c n : Nat} {xs ts : List Int} {os : Array Obj} (h : OI 2 w lo (.slice (some ⟨g, 0, none⟩) xs.length c) xs) (hl : ts.length = xs.length) :
    OI 2 (grow (putRow (Value.int .i64) (Sort.ahead w n) g 0 ts.toArray) os) lo (.slice (some ⟨g, 0, none⟩) xs.length c) ts ∧ Chg (fun b => b = g) w (grow (putRow (Value.int .i64) (Sort.ahead w n) g 0 ts.toArray) os) := by
  refine ⟨?_, ?_⟩
  · rcases h.2 with ⟨h1, _⟩ | ⟨g', cap, cur, h1, hb, h2, h3, h4, h5, h6⟩
    · cases h1
    · injection h1 with e1 e2 e3
      injection e1 with e1
      injection e1 with e1
      subst e1; subst e3
      have := ownsRow_sortedI (n := n) (os := os) hl hb h2 h3 h4 h5
      unfold OI
      rw [hl]
      exact this
  · have hg := grownBy_sortedI (w := w) (g := g) (n := n) (os := os) ts.toArray
    exact ⟨hg.os, hg.tape, hg.output, hg.size, fun k hk hne => hg.block k hk (fun e => hne (by injection e))⟩
theorem row_holds {w : World} {g lo c : Nat} {xs : List Int} (h : OI 2 w lo (.slice (some ⟨g, 0, none⟩) xs.length c) xs) : Holds (Value.int .i64) w g 0 xs.toArray := fun j hj => by
  have hj' : j < xs.length := by simpa using hj
  refine ⟨?_, ?_⟩
  · rw [Nat.zero_add, h.cellAt hj']
    congr 2
    simp [gi, hj']
  · rw [Nat.zero_add]
    exact h.hot rfl
theorem row_lt {w : World} {g lo c : Nat} {xs : List Int} (h : OI 2 w lo (.slice (some ⟨g, 0, none⟩) xs.length c) xs) : g < w.heap.size := (h.lt g rfl).2

theorem slicesSort {lo g c : Nat} {xs : List Int} (w : World) (h : OI 2 w lo (.slice (some ⟨g, 0, none⟩) xs.length c) xs) (hs : xs.length ≤ 4194304) :
    Calls Tryz.prog 63 #[.slice (some ⟨g, 0, none⟩) xs.length c] w fun e w' => e = .returned (.tuple #[]) ∧ OI 2 w' lo (.slice (some ⟨g, 0, none⟩) xs.length c) (sortL xs) ∧ Chg (fun b => b = g) w w' := by
  have hc := AnyM.slices_Sort_int Tryz.lSort g 0 c xs w (row_holds h) (row_lt h) (by omega)
  change Calls Tryz.prog 63 _ _ _ at hc
  refine hc.mono ?_
  rintro e w' ⟨he, n, os, rfl⟩
  exact ⟨he, row_world h (sortL_len xs)⟩

/-- without its repetitions -/
def compL (xs : List Int) : List Int := Lib.compact xs
theorem slicesCompact {lo g c : Nat} {xs : List Int} (w : World) (h : OI 2 w lo (.slice (some ⟨g, 0, none⟩) xs.length c) xs) :
    Calls Tryz.prog 64 #[.slice (some ⟨g, 0, none⟩) xs.length c] w fun e w' => e = .returned (.slice (some ⟨g, 0, none⟩) (compL xs).length c) ∧ OI 2 w' lo (.slice (some ⟨g, 0, none⟩) (compL xs).length c) (compL xs) ∧ Chg (fun b => b = g) w w' := by
  have hr := h.reads
  have hl : (compL xs).length ≤ xs.length := by
    unfold compL Lib.compact Lib.compactUpTo
    rw [List.length_map]
    exact Nat.le_trans (List.length_filter_le _ _) (by simp)
  have hc := AnyG.slices_Compact_int Tryz.lCompact g 0 c xs w (row_holds h) (by have := hr.cap; have := hr.top; omega) hr.cap
  change Calls Tryz.prog 64 _ _ _ at hc
  refine hc.mono ?_
  rintro e w' ⟨he, q, rfl⟩
  have key := row_world (n := q) (os := #[]) (ts := compL xs ++ List.replicate (xs.length - (compL xs).length) 0) h (by rw [List.length_append, List.length_replicate]; omega)
  have e0 : ∀ W : World, grow W #[] = W := fun W => by simp [grow]
  rw [e0] at key
  refine ⟨he, ?_, key.2⟩
  rcases key.1.2 with ⟨h1, _⟩ | ⟨g', cap, cur, h1, hb, h2, h3, h4, h5, h6⟩
  · cases h1
  · injection h1 with e1 e2 e3
    injection e1 with e1
    injection e1 with e1
    subst e1; subst e3
    refine ⟨by simp, .inr ⟨g, c, cur, rfl, hb, h2, Nat.le_trans hl hr.cap, h4, h5, ?_⟩⟩
    have h7 : (cur.toList.take (xs.length * 1)).take (compL xs).length = ((compL xs ++ List.replicate (xs.length - (compL xs).length) 0).map (Value.int .i64)).take (compL xs).length := by
      rw [← h6]
      congr 2
      rw [List.length_append, List.length_replicate]; omega
    rw [List.take_take, Nat.mul_one, Nat.min_eq_left hl] at h7
    rw [Nat.mul_one, h7, List.map_append, List.take_append_of_le_length (by simp), List.take_of_length_le (by simp)]

/-! ### a list in order, without its repetitions -/
theorem comp_asc {xs : List Int} (h : xs.Pairwise (· ≤ ·)) : (compL xs).Pairwise (· < ·) ∧ ∀ y, y ∈ compL xs ↔ y ∈ xs := by
  have le : ∀ i j, i ≤ j → j < xs.length → xs[i]! ≤ xs[j]! := fun i j h1 h2 => by
    rcases Nat.eq_or_lt_of_le h1 with e | e
    · subst e; exact Int.le_refl _
    · rw [getElem!_pos xs i (by omega), getElem!_pos xs j h2]
      exact List.pairwise_iff_getElem.1 h i j (by omega) h2 e
  have arr : ∀ i, xs.toArray[i]! = xs[i]! := fun i => by
    rcases Nat.lt_or_ge i xs.length with h1 | h1
    · rw [getElem!_pos xs.toArray i (by simpa using h1), getElem!_pos xs i h1, List.getElem_toArray]
    · rw [getElem!_neg xs.toArray i (by simpa using h1), getElem!_neg xs i (by omega)]
  unfold compL Lib.compact Lib.compactUpTo
  constructor
  · rw [List.pairwise_map]
    refine List.Pairwise.imp_of_mem ?_ ((List.pairwise_lt_range (n := xs.length)).filter _)
    intro i j hi hj hij
    rw [List.mem_filter, List.mem_range] at hi hj
    have hk := hj.2
    have hne : xs.toArray[j]! ≠ xs.toArray[j - 1]! := fun e => by
      rw [Lib.keeps_neg (by omega) e] at hk; cases hk
    rw [arr, arr] at hne ⊢
    have h1 := le i (j - 1) (by omega) (by omega)
    have h2 := le (j - 1) j (by omega) hj.1
    omega
  · intro y
    rw [List.mem_map]
    constructor
    · rintro ⟨i, hi, rfl⟩
      rw [List.mem_filter, List.mem_range] at hi
      rw [arr, getElem!_pos xs i hi.1]
      exact List.getElem_mem hi.1
    · intro hy
      obtain ⟨i, hi, e⟩ := List.getElem_of_mem hy
      have key : ∀ i, i < xs.length → xs[i]! = y → ∃ a, a ∈ (List.range xs.length).filter (Lib.keeps xs.toArray) ∧ xs.toArray[a]! = y := by
        intro i
        induction i with
        | zero =>
          intro h1 h2
          refine ⟨0, ?_, by rw [arr]; exact h2⟩
          rw [List.mem_filter, List.mem_range]
          exact ⟨h1, Lib.keeps_lt_one _ 0 (by omega)⟩
        | succ i ih =>
          intro h1 h2
          by_cases e : xs[i]! = y
          · exact ih (by omega) e
          · refine ⟨i + 1, ?_, by rw [arr]; exact h2⟩
            rw [List.mem_filter, List.mem_range]
            exact ⟨h1, Lib.keeps_pos (by rw [arr, arr, h2, Nat.add_sub_cancel]; exact fun c => e c.symm)⟩
      exact key i hi (by rw [getElem!_pos xs i hi]; exact e)
theorem compL_len (xs : List Int) : (compL xs).length ≤ xs.length := by
  unfold compL Lib.compact Lib.compactUpTo
  rw [List.length_map]
  exact Nat.le_trans (List.length_filter_le _ _) (by simp)
end Go.Proofs.YtjjaolndencplaaGreat
namespace Go.Proofs.YtjjaolndencplaaGreat
open Go.RowKit

/-- a lasso's vertices, the loop's first once more; what is asked of the one at i -/
def lasAll (z : TwoD) : List Int := (z.1 ++ z.2) ++ [gi z.2 0]
def lasAt (o : List Int) (n : List (List Int)) (l : List Int) (i : Nat) : Prop := (0 ≤ gi l i ∧ gi l i < (o.length : Int)) ∧ (0 < i → hasL (gl n (gi l (i - 1)).toNat) (gi l i) = true)
noncomputable def lasE (o : List Int) (n : List (List Int)) (z : TwoD) : Bool := decide (z.1.length ≤ 256 ∧ 1 ≤ z.2.length ∧ z.2.length ≤ 256) && @decide (∀ i, i < (lasAll z).length → lasAt o n (lasAll z) i) (Classical.propDecidable _)
noncomputable def lasB (o : List Int) (n : List (List Int)) (z : TwoD) : Bool := arB o n && lasE o n z
section
variable {o : List Int} {n : List (List Int)} {z : TwoD}
theorem lasE_len (h : ¬ (z.1.length ≤ 256 ∧ 1 ≤ z.2.length ∧ z.2.length ≤ 256)) : lasE o n z = false := by unfold lasE; rw [decide_eq_false h]; rfl
theorem lasE_no {i : Nat} (hi : i < (lasAll z).length) (h : ¬ lasAt o n (lasAll z) i) : lasE o n z = false := by
  unfold lasE
  rw [@decide_eq_false _ (Classical.propDecidable _) (fun c => h (c i hi)), Bool.and_false]
theorem lasE_yes (h : z.1.length ≤ 256 ∧ 1 ≤ z.2.length ∧ z.2.length ≤ 256) (h2 : ∀ i, i < (lasAll z).length → lasAt o n (lasAll z) i) : lasE o n z = true := by
  unfold lasE
  rw [decide_eq_true h, @decide_eq_true _ (Classical.propDecidable _) h2]; rfl
theorem lasB_no (h : arB o n = false) : lasB o n z = false := by unfold lasB; rw [h]; rfl
theorem lasB_eq (h : arB o n = true) : lasB o n z = lasE o n z := by unfold lasB; rw [h]; rfl
end
theorem broken_mem {ps : List PairD} {a b : List Int} (h : ∀ x, x ∈ a ↔ x ∈ b) : brokenL ps a = brokenL ps b := by
  have hm : ∀ c, meetB c a = meetB c b := fun c => decide_eq_decide.2 ⟨fun ⟨x, h1, h2⟩ => ⟨x, h1, (h x).1 h2⟩, fun ⟨x, h1, h2⟩ => ⟨x, h1, (h x).2 h2⟩⟩
  unfold brokenL brokenUp
  congr 1
  funext k
  unfold brokenAt
  rw [hm, hm]

def thereB (v : Int) (n : Nat) : Bool := decide (0 ≤ v ∧ v < (n : Int))
set_option maxRecDepth 100000 in
theorem hasVertex (A0 A1 : Option Addr) (n0 c0 n1 c1 : Nat) (v : Int) (w : World) (B : Nat) (hB : B ≤ w.heap.size) (hn0 : n0 ≤ 256) :
    Calls Tryz.prog 61 #[.agg #[.slice A0 n0 c0, .slice A1 n1 c1], .int .i64 v] w fun e w' => e = .returned (.bool (thereB v n0)) ∧ Below B w w' := by
  have hba : Below w.heap.size w (w.alloc (.cells #[.slice A0 n0 c0, .slice A1 n1 c1] 30)) := below_alloc (Nat.le_refl _) (Below.refl _ _)
  have q0 := (Box.new w 30 #[.slice A0 n0 c0, .slice A1 n1 c1]).d0
  have q1 := (Box.new w 30 #[.slice A0 n0 c0, .slice A1 n1 c1]).d1
  by_cases h0 : 0 ≤ v
  · by_cases h1 : v < (n0 : Int)
    · have E := Lib.hid (show thereB v n0 = true from decide_eq_true ⟨h0, h1⟩)
      go_enter Tryz.func61, Tryz.ntmps61
      go_wp2
      go_ret
      exact ⟨ret_b E.out.symm, by first | exact below_alloc (Nat.le_trans hB (by simp)) (hba.mono hB) | exact hba.mono hB⟩
    · have E := Lib.hid (show thereB v n0 = false from decide_eq_false fun h => h1 h.2)
      go_enter Tryz.func61, Tryz.ntmps61
      go_wp2
      go_ret
      exact ⟨ret_b E.out.symm, by first | exact below_alloc (Nat.le_trans hB (by simp)) (hba.mono hB) | exact hba.mono hB⟩
  · have E := Lib.hid (show thereB v n0 = false from decide_eq_false fun h => h0 h.1)
    go_enter Tryz.func61, Tryz.ntmps61
    go_wp2
    go_ret
    exact ⟨ret_b E.out.symm, by first | exact below_alloc (Nat.le_trans hB (by simp)) (hba.mono hB) | exact hba.mono hB⟩


end Go.Proofs.YtjjaolndencplaaGreat
namespace Go.Proofs.YtjjaolndencplaaGreat
open Go.RowKit

theorem gi_app_l {xs ys : List Int} {i : Nat} (h : i < xs.length) : gi (xs ++ ys) i = gi xs i := by simp [gi, List.getElem?_append_left h]
theorem gi_app_r {xs ys : List Int} {n : Nat} (h : xs.length = n) : gi (xs ++ ys) n = gi ys 0 := by
  subst h
  simp [gi, List.getElem?_append_right]
theorem gi_app_e {xs : List Int} {x : Int} : gi (xs ++ [x]) xs.length = x := by simp [gi]


set_option maxRecDepth 100000 in
set_option maxHeartbeats 3200000 in
theorem isLasso (A0 A1 S L : Option Addr) (n0 c0 n1 c1 m d k f : Nat) (o : List Int) (n : List (List Int)) (z : TwoD) (w : World) (B : Nat) (hB : B ≤ w.heap.size) (ha : RI w A0 n0 c0 o) (hb : RII w A1 n1 c1 n) (hs : RI w S m d z.1) (hl : RI w L k f z.2) (hf : fineAr o n) :
    Calls Tryz.prog 44 #[.agg #[.slice A0 n0 c0, .slice A1 n1 c1], .agg #[.slice S m d, .slice L k f]] w fun e w' => e = .returned (.bool (lasE o n z)) ∧ Below B w w' := by
  have b1 := hs.cap; have b2 := hs.top; have b3 := hl.cap; have b4 := hl.top
  have HM := Lib.hid hs.len; have HK := Lib.hid hl.len; have HO := Lib.hid ha.len; have HN := Lib.hid hb.len
  have hba : Below w.heap.size w ((w.alloc (.cells #[.slice A0 n0 c0, .slice A1 n1 c1] 30)).alloc (.cells #[.slice S m d, .slice L k f] 38)) := below_alloc (Nat.le_refl _) (below_alloc (Nat.le_refl _) (Below.refl _ _))
  have bx := (Box.new w 30 #[.slice A0 n0 c0, .slice A1 n1 c1]).alloc (.cells #[.slice S m d, .slice L k f] 38)
  have bl : Box ((w.alloc (.cells #[.slice A0 n0 c0, .slice A1 n1 c1] 30)).alloc (.cells #[.slice S m d, .slice L k f] 38)) (w.heap.size + 1) 38 #[.slice S m d, .slice L k f] := Box.new' (by simp)
  have q0 := bx.d0; have q1 := bx.d1; have p0 := bl.d0; have p1 := bl.d1
  have hn0 : n0 ≤ 256 := by have := hf.2.1; rw [HO.out] at this; exact this
  have H01 := Lib.hid (show n1 = n0 by rw [← HN.out, hf.2.2.1, HO.out])
  have HF := Lib.hid hf
  clear hf
  by_cases hm1 : m ≤ 256
  · by_cases hk1 : 1 ≤ k
    · by_cases hk2 : k ≤ 256
      · have HLN := Lib.hid (show z.1.length ≤ 256 ∧ 1 ≤ z.2.length ∧ z.2.length ≤ 256 by rw [HM.out, HK.out]; exact ⟨hm1, hk1, hk2⟩)
        have HAL := Lib.hid (show (lasAll z).length = m + k + 1 by unfold lasAll; simp [HM.out, HK.out]; omega)
        obtain ⟨bL, oL, rfl, hcL⟩ := hl.at_ (show 0 < k by omega)
        rw [Nat.add_zero] at hcL
        have hk1i : (1 : Int) ≤ (k : Int) := by omega
        have hk1n : 0 < k := by omega
        go_enter Tryz.func44, Tryz.ntmps44
        go_wp2_with fail
        refine wp_region_held_drew (S := fun w' => w'.cell? ⟨w.heap.size + 1, 0, none⟩ = some (.slice S m d) ∧ w'.cell? ⟨w.heap.size + 1, 1, none⟩ = some (.slice (some ⟨bL, oL, none⟩) k f)) (by kernel_rfl) ⟨p0, p1⟩ (fun hHeld => ?_)
        replace hba : Below w.heap.size w ((w.alloc (.cells #[.slice A0 n0 c0, .slice A1 n1 c1] 30)).alloc (.cells #[.slice S m d, .slice (some ⟨bL, oL, none⟩) k f] 38)).drew := Below.drew hba
        replace bx : Box ((w.alloc (.cells #[.slice A0 n0 c0, .slice A1 n1 c1] 30)).alloc (.cells #[.slice S m d, .slice (some ⟨bL, oL, none⟩) k f] 38)).drew _ _ _ := bx
        replace bl : Box ((w.alloc (.cells #[.slice A0 n0 c0, .slice A1 n1 c1] 30)).alloc (.cells #[.slice S m d, .slice (some ⟨bL, oL, none⟩) k f] 38)).drew _ _ _ := bl
        clear q0 q1 p0 p1
        generalize ((w.alloc (.cells #[.slice A0 n0 c0, .slice A1 n1 c1] 30)).alloc (.cells #[.slice S m d, .slice (some ⟨bL, oL, none⟩) k f] 38)).drew = W at *
        have sW := bl.lt
        have hem := OI.empty (E := 2) (w := W) (B := W.heap.size) (Nat.le_refl _)
        have hbE : Below W.heap.size W (W.alloc (.cells #[] 2)) := below_alloc (Nat.le_refl _) (Below.refl _ _)
        have hwE : Below w.heap.size w (W.alloc (.cells #[] 2)) := below_then hbE hba.size hba
        have blE := bl.below hbE bl.lt
        have bxE := bx.below hbE bx.lt
        refine takeH1 (v := ?_) (by kernel_rfl) (by kernel_rfl) (by kernel_rfl) (fun _ _ _ h => h) hHeld (by rfl) ?_ ?_
        rotate_left; · (intro w hSw; (try dsimp only at hSw); go_simp; try with_reducible rfl)
        try simp only [Act.put, List.setIfInBounds_toArray, List.set_cons_zero, List.set_cons_succ]
        refine takeH2 (v := ?_) (by kernel_rfl) (by kernel_rfl) (by kernel_rfl) (fun _ _ _ h => h) hHeld (by rfl) ?_ ?_
        rotate_left; · (intro w hSw; (try dsimp only at hSw); go_simp; try with_reducible rfl)
        try simp only [Act.put, List.setIfInBounds_toArray, List.set_cons_zero, List.set_cons_succ]
        refine takeH4 (v := ?_) (by kernel_rfl) (by kernel_rfl) (by kernel_rfl) (fun _ _ _ h => h) hHeld (by rfl) ?_ ?_
        rotate_left; · (intro w hSw; (try dsimp only at hSw); go_simp; try with_reducible rfl)
        try simp only [Act.put, List.setIfInBounds_toArray, List.set_cons_zero, List.set_cons_succ]
        refine takeH5 (v := ?_) (by kernel_rfl) (by kernel_rfl) (by kernel_rfl) (fun _ _ _ h => h) hHeld (by rfl) ?_ ?_
        rotate_left; · (intro w hSw; (try dsimp only at hSw); go_simp; try with_reducible rfl)
        try simp only [Act.put, List.setIfInBounds_toArray, List.set_cons_zero, List.set_cons_succ]
        refine callH0 (by kernel_rfl) (fun K hK => ?_)
        go_simp
        refine hK.out _ _ (⟨blE.d0, blE.d1⟩) (fun hHeld => ?_)
        clear hK K
        try simp only [Act.put, List.setIfInBounds_toArray, List.set_cons_zero, List.set_cons_succ]
        refine callH3 (by kernel_rfl) (fun K hK => ?_)
        refine step_of_list (by rfl) (wp_appI (.tmp 25) (.tmp 27) (by rfl) (W.alloc (.cells #[] 2)) W.heap.size (.slice (some ⟨W.heap.size, 0, none⟩) 0 0) [] (by rfl) hem S m d z.1 (by rfl) (hs.keep (keeps_below hwE)) (by simp) (by omega) hbE.size ?_)
        intro v2 w2 ho2 hb2' hc2 hat2
        rw [List.nil_append] at ho2
        clear hc2 hat2
        obtain ⟨A2, c2, rfl⟩ := ho2.form
        have hb2 : Below W.heap.size W w2 := hbE.trans hb2'
        have hw2 := below_then hb2 hba.size hba
        have bl2 := bl.below hb2 bl.lt
        refine hK.out _ _ (⟨bl2.d0, bl2.d1⟩) (fun hHeld => ?_)
        clear hK K
        try simp only [Act.put, List.setIfInBounds_toArray, List.set_cons_zero, List.set_cons_succ]
        refine callH6 (by kernel_rfl) (fun K hK => ?_)
        refine step_of_list (by rfl) (wp_appI (.tmp 28) (.tmp 30) (by rfl) w2 W.heap.size (.slice A2 z.1.length c2) z.1 (by rfl) ho2 (some ⟨bL, oL, none⟩) k f z.2 (by rfl) (hl.keep (keeps_below hw2)) (by rw [HM.out]; omega) (by omega) hb2.size ?_)
        intro v3 w3 ho3 hb3' hc3 hat3
        clear hc3 hat3
        generalize hZA : z.1 ++ z.2 = ZA at *
        have HZA := Lib.hid hZA
        have HZL := Lib.hid (show ZA.length = m + k by rw [← hZA, List.length_append, HM.out, HK.out])
        clear hZA
        obtain ⟨A3, c3, rfl⟩ := ho3.form
        have hb3 : Below W.heap.size W w3 := hb2.trans hb3'
        have hw3 := below_then hb3 hba.size hba
        have bl3 := bl.below hb3 bl.lt
        have bx3 := bx.below hb3 bx.lt
        refine hK.out _ _ (⟨bl3.d0, bl3.d1⟩) (fun hHeld => ?_)
        clear hK K
        try simp only [Act.put, List.setIfInBounds_toArray, List.set_cons_zero, List.set_cons_succ]
        refine takeH7 (v := ?_) (by kernel_rfl) (by kernel_rfl) (by kernel_rfl) (fun _ _ _ h => h) hHeld (by rfl) ?_ ?_
        rotate_left; · (intro w hSw; (try dsimp only at hSw); go_simp; try with_reducible rfl)
        try simp only [Act.put, List.setIfInBounds_toArray, List.set_cons_zero, List.set_cons_succ]
        refine wpAnyH_done (by kernel_rfl) ?_ _
        have hr3 := ho3.reads
        have hZ2 : ZA.length ≤ 512 := by have := HZL.out; omega
        have HEX := Lib.hid (show ∀ i, i < m + k → ¬ (0 ≤ gi ZA i ∧ gi ZA i < (n0 : Int)) → lasE o n z = false from fun i hi h => lasE_no (i := i) (by rw [HAL.out]; omega) (fun c => h (by
          have h1 := c.1
          rw [show lasAll z = ZA ++ [gi z.2 0] by rw [← HZA.out]; rfl, HO.out, gi_app_l (by rw [HZL.out]; exact hi)] at h1
          exact h1)))
        generalize hLL : ZA.length = LL at *
        have HLL := Lib.hid (show LL = m + k by rw [← HZL.out])
        have HLZ := Lib.hid hLL
        clear hLL HZL
        go_wp2
        go_loopw [34] (fun i wr => ∃ j : Nat, j ≤ LL ∧ i = .int .i64 j ∧ (∀ i, i < j → 0 ≤ gi ZA i ∧ gi ZA i < (n0 : Int)) ∧ Below w3.heap.size w3 wr) (fun i _ => LL - (intOf i).toNat)
        case atStart => exact ⟨0, Nat.zero_le _, rfl, fun i h => absurd h (by omega), Below.refl _ _⟩
        case round =>
          obtain ⟨j, hj, rfl, hall, hbr⟩ := hrel
          have HALL := Lib.hid hall
          clear hall
          have bxr := bx3.below hbr bx3.lt
          have hwr := below_then hbr hw3.size hw3
          by_cases hlt : j < LL
          · obtain ⟨b3, o3, rfl, hc3⟩ := hr3.at_ hlt
            have hcj := keeps_below hbr _ _ hc3
            have g0 := bxr.d0; have g1 := bxr.d1
            have hji : (j : Int) < (LL : Int) := by omega
            have hj0 : (0 : Int) ≤ (j : Int) := by omega
            cases hth : thereB (gi ZA j) n0 with
            | false =>
              have E := Lib.hid (HEX.out j (by have := HLL.out; omega) (of_decide_eq_false hth))
              have HTH := Lib.hid hth
              clear hth
              go_wp2_with fail
              refine (hasVertex _ _ _ _ _ _ _ _ _ (Nat.le_refl _) (by omega)).mono ?_; rintro e wt ⟨rfl, hbt⟩
              rw [HTH.out]
              go_wp2
              go_ret
              exact ⟨ret_b E.out.symm, (below_then hbt hwr.size hwr).mono hB⟩
            | true =>
              have HAT := Lib.hid (show 0 ≤ gi ZA j ∧ gi ZA j < (n0 : Int) from of_decide_eq_true hth)
              have HTH := Lib.hid hth
              clear hth
              go_wp2_with fail
              refine (hasVertex _ _ _ _ _ _ _ _ _ (Nat.le_refl _) (by omega)).mono ?_; rintro e wt ⟨rfl, hbt⟩
              rw [HTH.out]
              go_wp2
              go_roundw
              case rel => exact ⟨j + 1, by omega, by go_num, all_succ HALL.out HAT.out, below_then hbt hbr.size hbr⟩
              case measure => simp [intOf]; omega
          · obtain rfl : j = LL := by omega
            have blr := bl3.below hbr bl3.lt
            have p0 := blr.d0; have p1 := blr.d1
            have hcLr := keeps_below hwr _ _ hcL
            have hor := ho3.below hbr
            have sr : W.heap.size ≤ wr.heap.size := by have := hb3.size; have := hbr.size; omega
            go_wp2_with (at_builtin; refine wpList_pushI rfl (.tmp 43) (.tmp 48) rfl _ W.heap.size _ ZA (by rfl) hor _ (by rfl) (by rw [HLZ.out]; omega) sr ?_; intro v9 w9 ho9 hb9 hc9 hat9)
            clear hc9 hat9
            generalize hLA : ZA ++ [gi z.2 0] = LA at *
            have HLA := Lib.hid (show LA = lasAll z by rw [← hLA, ← HZA.out]; rfl)
            have HGA := Lib.hid (show ∀ i, i < m + k → gi LA i = gi ZA i from fun i hi => by rw [← hLA]; exact gi_app_l (by rw [HLZ.out, HLL.out]; exact hi))
            have HGE := Lib.hid (show gi LA (m + k) = gi z.2 0 by
              rw [← hLA, ← HLL.out, ← HLZ.out]
              exact gi_app_e)
            clear hLA
            obtain ⟨A9, c9, rfl⟩ := ho9.form
            have hw9 : Below w.heap.size w w9 := hwr.trans (hb9.mono (by have := hba.size; omega))
            have bx9 := bxr.below hb9 (by omega)
            have hl9 : LA.length = m + k + 1 := by rw [HLA.out]; exact HAL.out
            have HTA := Lib.hid (show ∀ i, i < m + k + 1 → 0 ≤ gi LA i ∧ gi LA i < (n0 : Int) from fun i hi => by
              by_cases e : i = m + k
              · have h1 := HALL.out m (by have := HLL.out; omega)
                rw [e, HGE.out]
                rw [← HZA.out] at h1
                have h2 : gi (z.1 ++ z.2) m = gi z.2 0 := gi_app_r HM.out
                rw [h2] at h1
                exact h1
              · rw [HGA.out i (by omega)]
                exact HALL.out i (by have := HLL.out; omega))
            have HE := Lib.hid (show (∀ i, i < LA.length → lasAt o n LA i) → lasE o n z = true from fun h => lasE_yes HLN.out (by rw [← HLA.out]; exact h))
            have HX := Lib.hid (show ∀ i, i < LA.length → ¬ lasAt o n LA i → lasE o n z = false from fun i hi h => lasE_no (by rw [← HLA.out]; exact hi) (by rw [← HLA.out]; exact h))
            have HL9 := Lib.hid hl9
            have hr9 := ho9.reads
            have hl9a : LA.length ≤ 513 := by omega
            have hl9b : 2 ≤ LA.length := by omega
            clear hl9 HLA HLZ hor ho9 hr3 p0 p1 HALL HEX HGA HGE
            generalize hLL : LA.length = NN at *
            clear hLL
            go_wp2
            go_loopw [8] (fun i wr => ∃ j : Nat, 1 ≤ j ∧ j ≤ NN ∧ i = .int .i64 j ∧ (∀ i, i < j → lasAt o n LA i) ∧ Below w9.heap.size w9 wr) (fun i _ => NN - (intOf i).toNat)
            case atStart => exact ⟨1, Nat.le_refl _, by omega, rfl, fun i h => ⟨by rw [HO.out]; exact HTA.out i (by omega), fun h2 => absurd h2 (by omega)⟩, Below.refl _ _⟩
            case round =>
              clear hbr bxr hwr
              obtain ⟨j, hj1, hj, rfl, hall, hbr⟩ := hrel
              have HALL := Lib.hid hall
              clear hall
              have bxr := bx9.below hbr bx9.lt
              have hwr := below_then hbr hw9.size hw9
              by_cases hlt : j < NN
              · obtain ⟨b9, o9, rfl, hc9⟩ := hr9.at_ hlt
                have hcj := keeps_below hbr _ _ hc9
                have g0 := bxr.d0; have g1 := bxr.d1
                have hji : (j : Int) < (NN : Int) := by omega
                have hj0 : (0 : Int) ≤ (j : Int) := by omega
                have hp1 := HTA.out (j - 1) (by have := HL9.out; omega)
                have hth2 := HTA.out j (by have := HL9.out; omega)
                obtain ⟨u, hu⟩ := Int.eq_ofNat_of_zero_le hp1.1
                have hun : u < n1 := by have := H01.out; omega
                have HU := Lib.hid hu
                obtain ⟨b9', o9', e9, hcp⟩ := hr9.at_ (i := j - 1) (by omega)
                injection e9 with e9
                injection e9 with e91 e92
                subst e91; subst e92
                have hcq := keeps_below hbr _ _ hcp
                rw [hu] at hcq
                obtain ⟨bn, on, An, nn, cn, rfl, hcN, rn⟩ := hb.at_ hun
                have hcn := keeps_below hwr _ _ hcN
                have hrow := rn.keep (keeps_below hwr)
                have e3 : ((j : Int) - 1).toNat = j - 1 := by omega
                have hjp : (0 : Int) < (j : Int) := by omega
                have hjn : 0 < j := by omega
                have hjm : (j : Int) - 1 < (NN : Int) := by omega
                have hjq : (1 : Int) ≤ (j : Int) := by omega
                have hui : (u : Int) < (n1 : Int) := by omega
                have hu0 : (0 : Int) ≤ (u : Int) := by omega
                clear hu hp1
                cases hh : hasL (gl n u) (gi LA j) with
                | false =>
                  have E := Lib.hid (HX.out j hlt (fun h => by have := h.2 (by omega); rw [HU.out, Int.toNat_natCast, hh] at this; cases this))
                  have HH := Lib.hid hh
                  clear hh
                  have ew : IntKind.i64.wrap ((j : Int) - 1) = (j : Int) - 1 := IntWalk.i64_in _ (by omega)
                  go_wp2_with fail
                  refine wp_region_held_drew (S := fun w' => w'.cell? ⟨w.heap.size, 0, none⟩ = some (.slice A0 n0 c0) ∧ w'.cell? ⟨w.heap.size, 1, none⟩ = some (.slice (some ⟨bn, on, none⟩) n1 c1) ∧ w'.cell? ⟨b9, o9 + j, none⟩ = some (.int .i64 (gi LA j)) ∧ w'.cell? ⟨b9, o9 + (j - 1), none⟩ = some (.int .i64 (u : Int)) ∧ w'.cell? ⟨bn, on + u, none⟩ = some (.slice An nn cn)) (by kernel_rfl) (⟨g0, g1, hcj, hcq, hcn⟩) (fun hHeld => ?_)
                  refine takeH0 (v := ?_) (by kernel_rfl) (by kernel_rfl) (by kernel_rfl) (fun _ _ _ h => h) hHeld (by rfl) ?_ ?_
                  rotate_left; · (intro w hSw; (try dsimp only at hSw); go_simp; try with_reducible rfl)
                  try simp only [Act.put, List.setIfInBounds_toArray, List.set_cons_zero, List.set_cons_succ]
                  refine takeH1 (v := ?_) (by kernel_rfl) (by kernel_rfl) (by kernel_rfl) (fun _ _ _ h => h) hHeld (by rfl) ?_ ?_
                  rotate_left; · (intro w hSw; (try dsimp only at hSw); go_simp; try with_reducible rfl)
                  try simp only [Act.put, List.setIfInBounds_toArray, List.set_cons_zero, List.set_cons_succ]
                  refine takeH2 (v := ?_) (by kernel_rfl) (by kernel_rfl) (by kernel_rfl) (fun _ _ _ h => h) hHeld (by rfl) ?_ ?_
                  rotate_left; · (intro w hSw; (try dsimp only at hSw); go_simp; try with_reducible rfl)
                  try simp only [Act.put, List.setIfInBounds_toArray, List.set_cons_zero, List.set_cons_succ]
                  refine takeH3 (v := ?_) (by kernel_rfl) (by kernel_rfl) (by kernel_rfl) (fun _ _ _ h => h) hHeld (by rfl) ?_ ?_
                  rotate_left; · (intro w hSw; (try dsimp only at hSw); go_simp; try with_reducible rfl)
                  try simp only [Act.put, List.setIfInBounds_toArray, List.set_cons_zero, List.set_cons_succ]
                  refine takeH4 (v := ?_) (by kernel_rfl) (by kernel_rfl) (by kernel_rfl) (fun _ _ _ h => h) hHeld (by rfl) ?_ ?_
                  rotate_left; · (intro w hSw; (try dsimp only at hSw); go_simp; try with_reducible rfl)
                  try simp only [Act.put, List.setIfInBounds_toArray, List.set_cons_zero, List.set_cons_succ]
                  refine takeH5 (v := ?_) (by kernel_rfl) (by kernel_rfl) (by kernel_rfl) (fun _ _ _ h => h) hHeld (by rfl) ?_ ?_
                  rotate_left; · (intro w hSw; (try dsimp only at hSw); go_simp; try with_reducible rfl)
                  try simp only [Act.put, List.setIfInBounds_toArray, List.set_cons_zero, List.set_cons_succ]
                  refine takeH6 (v := ?_) (by kernel_rfl) (by kernel_rfl) (by kernel_rfl) (fun _ _ _ h => h) hHeld (by rfl) ?_ ?_
                  rotate_left; · (intro w hSw; (try dsimp only at hSw); go_simp; try with_reducible rfl)
                  try simp only [Act.put, List.setIfInBounds_toArray, List.set_cons_zero, List.set_cons_succ]
                  refine takeH7 (v := ?_) (by kernel_rfl) (by kernel_rfl) (by kernel_rfl) (fun _ _ _ h => h) hHeld (by rfl) ?_ ?_
                  rotate_left; · (intro w hSw; (try dsimp only at hSw); go_simp; try with_reducible rfl)
                  try simp only [Act.put, List.setIfInBounds_toArray, List.set_cons_zero, List.set_cons_succ]
                  refine takeH8 (v := ?_) (by kernel_rfl) (by kernel_rfl) (by kernel_rfl) (fun _ _ _ h => h) hHeld (by rfl) ?_ ?_
                  rotate_left; · (intro w hSw; (try dsimp only at hSw); go_simp; try with_reducible rfl)
                  try simp only [Act.put, List.setIfInBounds_toArray, List.set_cons_zero, List.set_cons_succ]
                  refine takeH9 (v := ?_) (by kernel_rfl) (by kernel_rfl) (by kernel_rfl) (fun _ _ _ h => h) hHeld (by rfl) ?_ ?_
                  rotate_left; · (intro w hSw; (try dsimp only at hSw); go_simp; try with_reducible rfl)
                  try simp only [Act.put, List.setIfInBounds_toArray, List.set_cons_zero, List.set_cons_succ]
                  refine takeH10 (v := ?_) (by kernel_rfl) (by kernel_rfl) (by kernel_rfl) (fun _ _ _ h => h) hHeld (by rfl) ?_ ?_
                  rotate_left; · (intro w hSw; (try dsimp only at hSw); go_simp; try with_reducible rfl)
                  try simp only [Act.put, List.setIfInBounds_toArray, List.set_cons_zero, List.set_cons_succ]
                  refine takeH11 (v := ?_) (by kernel_rfl) (by kernel_rfl) (by kernel_rfl) (fun _ _ _ h => h) hHeld (by rfl) ?_ ?_
                  rotate_left; · (intro w hSw; (try dsimp only at hSw); go_simp; try with_reducible rfl)
                  try simp only [Act.put, List.setIfInBounds_toArray, List.set_cons_zero, List.set_cons_succ]
                  refine takeH12 (v := ?_) (by kernel_rfl) (by kernel_rfl) (by kernel_rfl) (fun _ _ _ h => h) hHeld (by rfl) ?_ ?_
                  rotate_left; · (intro w hSw; (try dsimp only at hSw); go_simp; try with_reducible rfl)
                  try simp only [Act.put, List.setIfInBounds_toArray, List.set_cons_zero, List.set_cons_succ]
                  refine callH13 (by kernel_rfl) (fun K hK => ?_)
                  go_simp
                  go_at_call 62
                  refine (slContains _ _ _ _ _ _ (hrow.keep (keeps_below (Below.drew (Below.refl wr.heap.size wr))))).mono ?_; rintro e wh ⟨rfl, qh⟩
                  rw [HH.out]
                  have hbh := below_qt qh (Below.drew (Below.refl wr.heap.size wr))
                  have bxh := bxr.below hbh bxr.lt
                  have h1 := keeps_below hbh _ _ hcj
                  have h2 := keeps_below hbh _ _ hcq
                  have h3 := keeps_below hbh _ _ hcn
                  go_wp2_with fail
                  refine hK.out _ _ (⟨bxh.d0, bxh.d1, h1, h2, h3⟩) (fun hHeld => ?_)
                  clear hK K
                  try simp only [Act.put, List.setIfInBounds_toArray, List.set_cons_zero, List.set_cons_succ]
                  refine takeH14 (v := ?_) (by kernel_rfl) (by kernel_rfl) (by kernel_rfl) (fun _ _ _ h => h) hHeld (by rfl) ?_ ?_
                  rotate_left; · (intro w hSw; (try dsimp only at hSw); go_simp; try with_reducible rfl)
                  try simp only [Act.put, List.setIfInBounds_toArray, List.set_cons_zero, List.set_cons_succ]
                  refine wpAnyH_done (by kernel_rfl) ?_ _
                  clear ew
                  go_wp2
                  go_ret
                  exact ⟨ret_b E.out.symm, (below_then hbh hwr.size hwr).mono hB⟩
                | true =>
                  have HAT := Lib.hid (show lasAt o n LA j from ⟨by rw [HO.out]; exact hth2, fun _ => by rw [HU.out, Int.toNat_natCast]; exact hh⟩)
                  have HH := Lib.hid hh
                  clear hh
                  have ew : IntKind.i64.wrap ((j : Int) - 1) = (j : Int) - 1 := IntWalk.i64_in _ (by omega)
                  go_wp2_with fail
                  refine wp_region_held_drew (S := fun w' => w'.cell? ⟨w.heap.size, 0, none⟩ = some (.slice A0 n0 c0) ∧ w'.cell? ⟨w.heap.size, 1, none⟩ = some (.slice (some ⟨bn, on, none⟩) n1 c1) ∧ w'.cell? ⟨b9, o9 + j, none⟩ = some (.int .i64 (gi LA j)) ∧ w'.cell? ⟨b9, o9 + (j - 1), none⟩ = some (.int .i64 (u : Int)) ∧ w'.cell? ⟨bn, on + u, none⟩ = some (.slice An nn cn)) (by kernel_rfl) (⟨g0, g1, hcj, hcq, hcn⟩) (fun hHeld => ?_)
                  refine takeH0 (v := ?_) (by kernel_rfl) (by kernel_rfl) (by kernel_rfl) (fun _ _ _ h => h) hHeld (by rfl) ?_ ?_
                  rotate_left; · (intro w hSw; (try dsimp only at hSw); go_simp; try with_reducible rfl)
                  try simp only [Act.put, List.setIfInBounds_toArray, List.set_cons_zero, List.set_cons_succ]
                  refine takeH1 (v := ?_) (by kernel_rfl) (by kernel_rfl) (by kernel_rfl) (fun _ _ _ h => h) hHeld (by rfl) ?_ ?_
                  rotate_left; · (intro w hSw; (try dsimp only at hSw); go_simp; try with_reducible rfl)
                  try simp only [Act.put, List.setIfInBounds_toArray, List.set_cons_zero, List.set_cons_succ]
                  refine takeH2 (v := ?_) (by kernel_rfl) (by kernel_rfl) (by kernel_rfl) (fun _ _ _ h => h) hHeld (by rfl) ?_ ?_
                  rotate_left; · (intro w hSw; (try dsimp only at hSw); go_simp; try with_reducible rfl)
                  try simp only [Act.put, List.setIfInBounds_toArray, List.set_cons_zero, List.set_cons_succ]
                  refine takeH3 (v := ?_) (by kernel_rfl) (by kernel_rfl) (by kernel_rfl) (fun _ _ _ h => h) hHeld (by rfl) ?_ ?_
                  rotate_left; · (intro w hSw; (try dsimp only at hSw); go_simp; try with_reducible rfl)
                  try simp only [Act.put, List.setIfInBounds_toArray, List.set_cons_zero, List.set_cons_succ]
                  refine takeH4 (v := ?_) (by kernel_rfl) (by kernel_rfl) (by kernel_rfl) (fun _ _ _ h => h) hHeld (by rfl) ?_ ?_
                  rotate_left; · (intro w hSw; (try dsimp only at hSw); go_simp; try with_reducible rfl)
                  try simp only [Act.put, List.setIfInBounds_toArray, List.set_cons_zero, List.set_cons_succ]
                  refine takeH5 (v := ?_) (by kernel_rfl) (by kernel_rfl) (by kernel_rfl) (fun _ _ _ h => h) hHeld (by rfl) ?_ ?_
                  rotate_left; · (intro w hSw; (try dsimp only at hSw); go_simp; try with_reducible rfl)
                  try simp only [Act.put, List.setIfInBounds_toArray, List.set_cons_zero, List.set_cons_succ]
                  refine takeH6 (v := ?_) (by kernel_rfl) (by kernel_rfl) (by kernel_rfl) (fun _ _ _ h => h) hHeld (by rfl) ?_ ?_
                  rotate_left; · (intro w hSw; (try dsimp only at hSw); go_simp; try with_reducible rfl)
                  try simp only [Act.put, List.setIfInBounds_toArray, List.set_cons_zero, List.set_cons_succ]
                  refine takeH7 (v := ?_) (by kernel_rfl) (by kernel_rfl) (by kernel_rfl) (fun _ _ _ h => h) hHeld (by rfl) ?_ ?_
                  rotate_left; · (intro w hSw; (try dsimp only at hSw); go_simp; try with_reducible rfl)
                  try simp only [Act.put, List.setIfInBounds_toArray, List.set_cons_zero, List.set_cons_succ]
                  refine takeH8 (v := ?_) (by kernel_rfl) (by kernel_rfl) (by kernel_rfl) (fun _ _ _ h => h) hHeld (by rfl) ?_ ?_
                  rotate_left; · (intro w hSw; (try dsimp only at hSw); go_simp; try with_reducible rfl)
                  try simp only [Act.put, List.setIfInBounds_toArray, List.set_cons_zero, List.set_cons_succ]
                  refine takeH9 (v := ?_) (by kernel_rfl) (by kernel_rfl) (by kernel_rfl) (fun _ _ _ h => h) hHeld (by rfl) ?_ ?_
                  rotate_left; · (intro w hSw; (try dsimp only at hSw); go_simp; try with_reducible rfl)
                  try simp only [Act.put, List.setIfInBounds_toArray, List.set_cons_zero, List.set_cons_succ]
                  refine takeH10 (v := ?_) (by kernel_rfl) (by kernel_rfl) (by kernel_rfl) (fun _ _ _ h => h) hHeld (by rfl) ?_ ?_
                  rotate_left; · (intro w hSw; (try dsimp only at hSw); go_simp; try with_reducible rfl)
                  try simp only [Act.put, List.setIfInBounds_toArray, List.set_cons_zero, List.set_cons_succ]
                  refine takeH11 (v := ?_) (by kernel_rfl) (by kernel_rfl) (by kernel_rfl) (fun _ _ _ h => h) hHeld (by rfl) ?_ ?_
                  rotate_left; · (intro w hSw; (try dsimp only at hSw); go_simp; try with_reducible rfl)
                  try simp only [Act.put, List.setIfInBounds_toArray, List.set_cons_zero, List.set_cons_succ]
                  refine takeH12 (v := ?_) (by kernel_rfl) (by kernel_rfl) (by kernel_rfl) (fun _ _ _ h => h) hHeld (by rfl) ?_ ?_
                  rotate_left; · (intro w hSw; (try dsimp only at hSw); go_simp; try with_reducible rfl)
                  try simp only [Act.put, List.setIfInBounds_toArray, List.set_cons_zero, List.set_cons_succ]
                  refine callH13 (by kernel_rfl) (fun K hK => ?_)
                  go_simp
                  go_at_call 62
                  refine (slContains _ _ _ _ _ _ (hrow.keep (keeps_below (Below.drew (Below.refl wr.heap.size wr))))).mono ?_; rintro e wh ⟨rfl, qh⟩
                  rw [HH.out]
                  have hbh := below_qt qh (Below.drew (Below.refl wr.heap.size wr))
                  have bxh := bxr.below hbh bxr.lt
                  have h1 := keeps_below hbh _ _ hcj
                  have h2 := keeps_below hbh _ _ hcq
                  have h3 := keeps_below hbh _ _ hcn
                  go_wp2_with fail
                  refine hK.out _ _ (⟨bxh.d0, bxh.d1, h1, h2, h3⟩) (fun hHeld => ?_)
                  clear hK K
                  try simp only [Act.put, List.setIfInBounds_toArray, List.set_cons_zero, List.set_cons_succ]
                  refine takeH14 (v := ?_) (by kernel_rfl) (by kernel_rfl) (by kernel_rfl) (fun _ _ _ h => h) hHeld (by rfl) ?_ ?_
                  rotate_left; · (intro w hSw; (try dsimp only at hSw); go_simp; try with_reducible rfl)
                  try simp only [Act.put, List.setIfInBounds_toArray, List.set_cons_zero, List.set_cons_succ]
                  refine wpAnyH_done (by kernel_rfl) ?_ _
                  clear ew
                  go_wp2
                  go_roundw
                  case rel => exact ⟨j + 1, by omega, by omega, by go_num, all_succ HALL.out HAT.out, below_then hbh hbr.size hbr⟩
                  case measure => simp [intOf]; omega
              · obtain rfl : j = NN := by omega
                have E := Lib.hid (HE.out HALL.out)
                go_wp2
                go_ret
                exact ⟨ret_b E.out.symm, hwr.mono hB⟩
      · have E := Lib.hid (show lasE o n z = false from lasE_len (by rw [HM.out, HK.out]; omega))
        go_enter Tryz.func44, Tryz.ntmps44
        go_wp2
        go_ret
        exact ⟨ret_b E.out.symm, hba.mono hB⟩
    · have E := Lib.hid (show lasE o n z = false from lasE_len (by rw [HM.out, HK.out]; omega))
      go_enter Tryz.func44, Tryz.ntmps44
      go_wp2
      go_ret
      exact ⟨ret_b E.out.symm, hba.mono hB⟩
  · have E := Lib.hid (show lasE o n z = false from lasE_len (by rw [HM.out, HK.out]; omega))
    go_enter Tryz.func44, Tryz.ntmps44
    go_wp2
    go_ret
    exact ⟨ret_b E.out.symm, hba.mono hB⟩

set_option maxRecDepth 100000 in
set_option maxHeartbeats 1600000 in
theorem metBy (S L : Option Addr) (m d k f : Nat) (z : TwoD) (w : World) (B : Nat) (hB : B ≤ w.heap.size) (hl : RI w L k f z.2) (hk : k ≤ 1048576) (hk1 : 1 ≤ k) :
    Calls Tryz.prog 45 #[.agg #[.slice S m d, .slice L k f]] w fun e w' => ∃ v, e = .returned v ∧ OI 2 w' B v (compL (sortL z.2)) ∧ Below B w w' := by
  have b3 := hl.cap; have b4 := hl.top
  have hba : Below w.heap.size w (w.alloc (.cells #[.slice S m d, .slice L k f] 38)) := below_alloc (Nat.le_refl _) (Below.refl _ _)
  have bl : Box (w.alloc (.cells #[.slice S m d, .slice L k f] 38)) w.heap.size 38 #[.slice S m d, .slice L k f] := Box.new _ _ _
  have p0 := bl.d0; have p1 := bl.d1
  have hem := OI.empty (E := 2) (w := (w.alloc (.cells #[.slice S m d, .slice L k f] 38))) (B := w.heap.size + 1) (by simp)
  rw [show (w.alloc (.cells #[.slice S m d, .slice L k f] 38)).heap.size = w.heap.size + 1 by simp] at hem
  have hbE : Below w.heap.size w ((w.alloc (.cells #[.slice S m d, .slice L k f] 38)).alloc (.cells #[] 2)) := below_alloc (by simp) hba
  have k1 : ∀ q, ((w.alloc (.cells #[.slice S m d, .slice L k f] 38)).alloc q).cell? ⟨w.heap.size, 1, none⟩ = some (.slice L k f) := fun q => keepA p1
  have hx : w.heap.size < (w.alloc (.cells #[.slice S m d, .slice L k f] 38)).heap.size := bl.lt
  go_enter Tryz.func45, Tryz.ntmps45
  go_wp2_with (at_builtin; go_loud (refine wpList_appI rfl (.tmp 4) (.tmp 6) rfl _ (w.heap.size + 1) _ [] rfl hem _ _ _ z.2 rfl (hl.keep (keeps_below hbE)) (by simp) (by omega) (by first | (simp; done) | (simp; omega)) ?_); intro v0 w1 ho1 hb1' hc1 hat1)
  rw [List.nil_append] at ho1
  clear hc1 hat1 hem k1
  have hw1 : Below w.heap.size w w1 := hbE.trans (hb1'.mono (by omega))
  obtain ⟨A1, c1, rfl⟩ := ho1.form
  · obtain ⟨g1, c1', e1⟩ := ho1.form2 (by rw [hl.len]; omega)
    injection e1 with e1 _ e2
    subst e1; subst e2
    have hzl : z.2.length ≤ 4194304 := by rw [hl.len]; omega
    go_wp2_with fail
    refine (slicesSort _ ho1 hzl).mono ?_; rintro e w2 ⟨rfl, ho2, hc2⟩
    have hg1 := (ho1.lt g1 rfl).1
    have hw2 : Below w.heap.size w w2 := hw1.trans (hc2.below hw1.size (fun x hx => by have h3 : x = g1 := hx; omega))
    have ho3 : OI 2 w2 (w.heap.size + 1) (.slice (some ⟨g1, 0, none⟩) (sortL z.2).length c1) (sortL z.2) := by rw [sortL_len]; exact ho2
    have SL := Lib.hid (sortL_len z.2)
    go_wp2_with fail
    refine ((show ∀ w', OI 2 w' (w.heap.size + 1) (.slice (some ⟨g1, 0, none⟩) (sortL z.2).length c1) (sortL z.2) → Calls Tryz.prog 64 #[.slice (some ⟨g1, 0, none⟩) z.2.length c1] w' fun e w1 => e = .returned (.slice (some ⟨g1, 0, none⟩) (compL (sortL z.2)).length c1) ∧ OI 2 w1 (w.heap.size + 1) (.slice (some ⟨g1, 0, none⟩) (compL (sortL z.2)).length c1) (compL (sortL z.2)) ∧ Chg (fun b => b = g1) w' w1 from fun w' h' => by have h2 := slicesCompact w' h'; rwa [SL.out] at h2) _ (by exact ho3)).mono ?_
    rintro e w3 ⟨rfl, ho4, hc3⟩
    go_wp2
    go_ret
    exact ⟨.slice (some ⟨g1, 0, none⟩) (compL (sortL z.2)).length c1, rfl, ho4.more (Nat.le_succ_of_le hB), (hw2.trans (hc3.below hw2.size (fun x hx => by have h3 : x = g1 := hx; omega))).mono hB⟩
end Go.Proofs.YtjjaolndencplaaGreat
namespace Go.Proofs.YtjjaolndencplaaGreat
open Go.RowKit

noncomputable def lasW (a : ArD) (ps : List PairD) (z : TwoD) : Bool := lasB a.1 a.2 z && (pairsB ps a.1.length && (brokenL ps z.2).length == 0)
section
variable {a : ArD} {ps : List PairD} {z : TwoD}
theorem lasW_1 (h : lasB a.1 a.2 z = false) : lasW a ps z = false := by unfold lasW; rw [h]; rfl
theorem lasW_2 (h : pairsB ps a.1.length = false) : lasW a ps z = false := by unfold lasW; rw [h]; simp
theorem lasW_3 (h : (brokenL ps z.2).length ≠ 0) : lasW a ps z = false := by unfold lasW; rw [show ((brokenL ps z.2).length == 0) = false by simpa using h]; simp
theorem lasW_4 (h : lasB a.1 a.2 z = true) (h2 : pairsB ps a.1.length = true) (h3 : (brokenL ps z.2).length = 0) : lasW a ps z = true := by unfold lasW; rw [h, h2, h3]; rfl
theorem lasB_parts (h : lasB a.1 a.2 z = true) : arB a.1 a.2 = true ∧ z.2.length ≤ 256 := by
  unfold lasB lasE at h
  rw [Bool.and_eq_true, Bool.and_eq_true] at h
  exact ⟨h.1, (of_decide_eq_true h.2.1).2.2⟩
theorem lasE_1 (h : lasE a.1 a.2 z = true) : 1 ≤ z.2.length := by
  unfold lasE at h
  rw [Bool.and_eq_true] at h
  exact (of_decide_eq_true h.1).2.1
theorem lasB_e (h : arB a.1 a.2 = true) (h2 : lasE a.1 a.2 z = true) : lasB a.1 a.2 z = true := by rw [lasB_eq h, h2]
end

set_option maxRecDepth 100000 in
theorem sizeFn (A0 A1 : Option Addr) (n0 c0 n1 c1 : Nat) (w : World) (B : Nat) (hB : B ≤ w.heap.size) :
    Calls Tryz.prog 22 #[.agg #[.slice A0 n0 c0, .slice A1 n1 c1]] w fun e w' => e = .returned (.int .i64 (n0 : Int)) ∧ Below B w w' := by
  have hba : Below w.heap.size w (w.alloc (.cells #[.slice A0 n0 c0, .slice A1 n1 c1] 30)) := below_alloc (Nat.le_refl _) (Below.refl _ _)
  have q0 := (Box.new w 30 #[.slice A0 n0 c0, .slice A1 n1 c1]).d0
  go_enter Tryz.func22, Tryz.ntmps22
  go_wp2
  go_ret
  exact ⟨rfl, hba.mono hB⟩

set_option maxRecDepth 100000 in
set_option maxHeartbeats 1600000 in
theorem implLassoWell (s0 s1 : Value) (a : ArD) (A : Option Addr) (n c : Nat) (ps : List PairD) (t0 t1 : Value) (z : TwoD) (w : World) (B : Nat) (hB : B ≤ w.heap.size) (ha : RAv w s0 s1 a.1 a.2) (hp : RPS w A n c ps) (hz : RTv w t0 t1 z) :
    Calls Tryz.prog 18 #[.agg #[s0, s1], .slice A n c, .agg #[t0, t1]] w fun e w' => e = .returned (.bool (lasW a ps z)) ∧ Below B w w' := by
  obtain ⟨A0, n0, c0, A1, n1, c1, rfl, rfl⟩ := ha.form
  obtain ⟨S, m, d, L, k, f, rfl, rfl⟩ := hz.form
  have hr := ha.ri; have hrr := ha.rii; have hs := hz.r1; have hl := hz.r2
  have b1 := hp.cap; have b2 := hp.top
  have HO := Lib.hid hr.len; have HP := Lib.hid hp.len; have HK := Lib.hid hl.len
  have hba : Below w.heap.size w ((w.alloc (.cells #[.slice A0 n0 c0, .slice A1 n1 c1] 30)).alloc (.cells #[.slice S m d, .slice L k f] 38)) := below_alloc (Nat.le_refl _) (below_alloc (Nat.le_refl _) (Below.refl _ _))
  have bx := (Box.new w 30 #[.slice A0 n0 c0, .slice A1 n1 c1]).alloc (.cells #[.slice S m d, .slice L k f] 38)
  have bl : Box ((w.alloc (.cells #[.slice A0 n0 c0, .slice A1 n1 c1] 30)).alloc (.cells #[.slice S m d, .slice L k f] 38)) (w.heap.size + 1) 38 #[.slice S m d, .slice L k f] := Box.new' (by simp)
  have q0 := bx.d0; have q1 := bx.d1; have p0 := bl.d0; have p1 := bl.d1
  cases h0 : arB a.1 a.2 with
  | false =>
    have E := Lib.hid (lasW_1 (ps := ps) (lasB_no (z := z) h0))
    have H0 := Lib.hid h0
    clear h0
    go_enter Tryz.func18, Tryz.ntmps18
    go_wp2_with fail
    refine (implArenaOk _ _ _ _ _ _ a.1 a.2 _ _ (Nat.le_refl _) (hr.keep (keeps_below hba)) (hrr.keep (keeps_below hba))).mono ?_; rintro e w1 ⟨rfl, hb1⟩
    rw [H0.out]
    have hw1 := below_then hb1 hba.size hba
    replace bx := bx.below hb1 bx.lt; replace bl := bl.below hb1 bl.lt
    clear q0 q1 p0 p1
    have q0 := bx.d0; have q1 := bx.d1; have p0 := bl.d0; have p1 := bl.d1
    go_wp2
    go_ret
    exact ⟨ret_b E.out.symm, hw1.mono hB⟩
  | true =>
    have H0 := Lib.hid h0
    have hf := fineAr_of h0
    have hn0 : n0 ≤ 256 := by have := hf.2.1; rw [HO.out] at this; exact this
    have HF := Lib.hid hf
    clear h0 hf
    cases h1 : lasE a.1 a.2 z with
    | false =>
      have E := Lib.hid (lasW_1 (ps := ps) (show lasB a.1 a.2 z = false by rw [lasB_eq H0.out, h1]))
      have H1 := Lib.hid h1
      clear h1
      go_enter Tryz.func18, Tryz.ntmps18
      go_wp2_with fail
      refine (implArenaOk _ _ _ _ _ _ a.1 a.2 _ _ (Nat.le_refl _) (hr.keep (keeps_below hba)) (hrr.keep (keeps_below hba))).mono ?_; rintro e w1 ⟨rfl, hb1⟩
      rw [H0.out]
      have hw1 := below_then hb1 hba.size hba
      replace bx := bx.below hb1 bx.lt; replace bl := bl.below hb1 bl.lt
      clear q0 q1 p0 p1
      have q0 := bx.d0; have q1 := bx.d1; have p0 := bl.d0; have p1 := bl.d1
      go_wp2_with fail
      refine (isLasso _ _ _ _ _ _ _ _ _ _ _ _ a.1 a.2 z _ _ (Nat.le_refl _) (hr.keep (keeps_below hw1)) (hrr.keep (keeps_below hw1)) (hs.keep (keeps_below hw1)) (hl.keep (keeps_below hw1)) HF.out).mono ?_; rintro e w2 ⟨rfl, hb2⟩
      rw [H1.out]
      have hw2 := below_then hb2 hw1.size hw1
      replace bx := bx.below hb2 bx.lt; replace bl := bl.below hb2 bl.lt
      clear q0 q1 p0 p1
      have q0 := bx.d0; have q1 := bx.d1; have p0 := bl.d0; have p1 := bl.d1
      go_wp2
      go_ret
      exact ⟨ret_b E.out.symm, hw2.mono hB⟩
    | true =>
      have H1 := Lib.hid h1
      have HB := Lib.hid (show lasB a.1 a.2 z = true by rw [lasB_eq H0.out, h1])
      have hk := (lasB_parts HB.out).2
      rw [HK.out] at hk
      have hk1 : 1 ≤ k := by have := lasE_1 H1.out; rw [HK.out] at this; exact this
      clear h1
      cases h2 : pairsB ps (n0 : Int) with
      | false =>
        have E := Lib.hid (lasW_2 (a := a) (z := z) (ps := ps) (by rw [HO.out]; exact h2))
        have H2 := Lib.hid h2
        clear h2
        go_enter Tryz.func18, Tryz.ntmps18
        go_wp2_with fail
        refine (implArenaOk _ _ _ _ _ _ a.1 a.2 _ _ (Nat.le_refl _) (hr.keep (keeps_below hba)) (hrr.keep (keeps_below hba))).mono ?_; rintro e w1 ⟨rfl, hb1⟩
        rw [H0.out]
        have hw1 := below_then hb1 hba.size hba
        replace bx := bx.below hb1 bx.lt; replace bl := bl.below hb1 bl.lt
        clear q0 q1 p0 p1
        have q0 := bx.d0; have q1 := bx.d1; have p0 := bl.d0; have p1 := bl.d1
        go_wp2_with fail
        refine (isLasso _ _ _ _ _ _ _ _ _ _ _ _ a.1 a.2 z _ _ (Nat.le_refl _) (hr.keep (keeps_below hw1)) (hrr.keep (keeps_below hw1)) (hs.keep (keeps_below hw1)) (hl.keep (keeps_below hw1)) HF.out).mono ?_; rintro e w2 ⟨rfl, hb2⟩
        rw [H1.out]
        have hw2 := below_then hb2 hw1.size hw1
        replace bx := bx.below hb2 bx.lt; replace bl := bl.below hb2 bl.lt
        clear q0 q1 p0 p1
        have q0 := bx.d0; have q1 := bx.d1; have p0 := bl.d0; have p1 := bl.d1
        go_wp2_with fail
        refine (sizeFn _ _ _ _ _ _ _ _ (Nat.le_refl _)).mono ?_; rintro e w3 ⟨rfl, hb3⟩
        have hw3 := below_then hb3 hw2.size hw2
        replace bx := bx.below hb3 bx.lt; replace bl := bl.below hb3 bl.lt
        clear q0 q1 p0 p1
        have q0 := bx.d0; have q1 := bx.d1; have p0 := bl.d0; have p1 := bl.d1
        go_wp2_with fail
        refine (arePairs _ _ _ ps _ _ _ (Nat.le_refl _) (hp.keep (keeps_below hw3))).mono ?_; rintro e w4 ⟨rfl, hb4⟩
        rw [H2.out]
        have hw4 := below_then hb4 hw3.size hw3
        replace bx := bx.below hb4 bx.lt; replace bl := bl.below hb4 bl.lt
        clear q0 q1 p0 p1
        have q0 := bx.d0; have q1 := bx.d1; have p0 := bl.d0; have p1 := bl.d1
        go_wp2
        go_ret
        exact ⟨ret_b E.out.symm, hw4.mono hB⟩
      | true =>
        have hfp := finePs_of h2 (by omega) (by omega)
        have HFP := Lib.hid hfp
        have H2 := Lib.hid h2
        have H2' := Lib.hid (show pairsB ps (a.1.length : Int) = true by rw [HO.out]; exact h2)
        have BM := Lib.hid (show brokenL ps (compL (sortL z.2)) = brokenL ps z.2 from broken_mem fun x => by rw [(comp_asc (sortL_pair z.2)).2, sortL_mem])
        have CLN := Lib.hid (show (compL (sortL z.2)).length ≤ 256 from Nat.le_trans (compL_len _) (by rw [sortL_len, HK.out]; exact hk))
        clear h2 hfp
        by_cases h3 : (brokenL ps z.2).length = 0
        · have E := Lib.hid (lasW_4 HB.out H2'.out h3)
          have h4 : (((brokenL ps z.2).length : Int) == 0) = true := by rw [h3]; rfl
          clear h3
          go_enter Tryz.func18, Tryz.ntmps18
          go_wp2_with fail
          refine (implArenaOk _ _ _ _ _ _ a.1 a.2 _ _ (Nat.le_refl _) (hr.keep (keeps_below hba)) (hrr.keep (keeps_below hba))).mono ?_; rintro e w1 ⟨rfl, hb1⟩
          rw [H0.out]
          have hw1 := below_then hb1 hba.size hba
          replace bx := bx.below hb1 bx.lt; replace bl := bl.below hb1 bl.lt
          clear q0 q1 p0 p1
          have q0 := bx.d0; have q1 := bx.d1; have p0 := bl.d0; have p1 := bl.d1
          go_wp2_with fail
          refine (isLasso _ _ _ _ _ _ _ _ _ _ _ _ a.1 a.2 z _ _ (Nat.le_refl _) (hr.keep (keeps_below hw1)) (hrr.keep (keeps_below hw1)) (hs.keep (keeps_below hw1)) (hl.keep (keeps_below hw1)) HF.out).mono ?_; rintro e w2 ⟨rfl, hb2⟩
          rw [H1.out]
          have hw2 := below_then hb2 hw1.size hw1
          replace bx := bx.below hb2 bx.lt; replace bl := bl.below hb2 bl.lt
          clear q0 q1 p0 p1
          have q0 := bx.d0; have q1 := bx.d1; have p0 := bl.d0; have p1 := bl.d1
          go_wp2_with fail
          refine (sizeFn _ _ _ _ _ _ _ _ (Nat.le_refl _)).mono ?_; rintro e w3 ⟨rfl, hb3⟩
          have hw3 := below_then hb3 hw2.size hw2
          replace bx := bx.below hb3 bx.lt; replace bl := bl.below hb3 bl.lt
          clear q0 q1 p0 p1
          have q0 := bx.d0; have q1 := bx.d1; have p0 := bl.d0; have p1 := bl.d1
          go_wp2_with fail
          refine (arePairs _ _ _ ps _ _ _ (Nat.le_refl _) (hp.keep (keeps_below hw3))).mono ?_; rintro e w4 ⟨rfl, hb4⟩
          rw [H2.out]
          have hw4 := below_then hb4 hw3.size hw3
          replace bx := bx.below hb4 bx.lt; replace bl := bl.below hb4 bl.lt
          clear q0 q1 p0 p1
          have q0 := bx.d0; have q1 := bx.d1; have p0 := bl.d0; have p1 := bl.d1
          go_wp2_with fail
          refine (metBy _ _ _ _ _ _ z _ _ (Nat.le_refl _) (hl.keep (keeps_below hw4)) (by omega) hk1).mono ?_; rintro e w5 ⟨vm, rfl, hom, hb5⟩
          obtain ⟨Am, cm, rfl⟩ := hom.form
          have hw5 := below_then hb5 hw4.size hw4
          replace bx := bx.below hb5 bx.lt; replace bl := bl.below hb5 bl.lt
          clear q0 q1 p0 p1
          have q0 := bx.d0; have q1 := bx.d1; have p0 := bl.d0; have p1 := bl.d1
          go_wp2_with fail
          refine (brokenBy _ _ _ _ _ _ ps (compL (sortL z.2)) _ _ (Nat.le_refl _) (hp.keep (keeps_below hw5)) hom.reads HFP.out (by have := CLN.out; omega)).mono ?_; rintro e w6 ⟨v, rfl, ho, hb6⟩
          rw [BM.out] at ho
          obtain ⟨Av, cv, rfl⟩ := ho.form
          have hw6 := below_then hb6 hw5.size hw5
          replace bx := bx.below hb6 bx.lt; replace bl := bl.below hb6 bl.lt
          clear q0 q1 p0 p1
          have q0 := bx.d0; have q1 := bx.d1; have p0 := bl.d0; have p1 := bl.d1
          go_wp2
          go_ret
          exact ⟨ret_b E.out.symm, hw6.mono hB⟩
        · have E := Lib.hid (lasW_3 (a := a) h3)
          have h4 : (((brokenL ps z.2).length : Int) == 0) = false := beq_eq_false_iff_ne.2 (by omega)
          clear h3
          go_enter Tryz.func18, Tryz.ntmps18
          go_wp2_with fail
          refine (implArenaOk _ _ _ _ _ _ a.1 a.2 _ _ (Nat.le_refl _) (hr.keep (keeps_below hba)) (hrr.keep (keeps_below hba))).mono ?_; rintro e w1 ⟨rfl, hb1⟩
          rw [H0.out]
          have hw1 := below_then hb1 hba.size hba
          replace bx := bx.below hb1 bx.lt; replace bl := bl.below hb1 bl.lt
          clear q0 q1 p0 p1
          have q0 := bx.d0; have q1 := bx.d1; have p0 := bl.d0; have p1 := bl.d1
          go_wp2_with fail
          refine (isLasso _ _ _ _ _ _ _ _ _ _ _ _ a.1 a.2 z _ _ (Nat.le_refl _) (hr.keep (keeps_below hw1)) (hrr.keep (keeps_below hw1)) (hs.keep (keeps_below hw1)) (hl.keep (keeps_below hw1)) HF.out).mono ?_; rintro e w2 ⟨rfl, hb2⟩
          rw [H1.out]
          have hw2 := below_then hb2 hw1.size hw1
          replace bx := bx.below hb2 bx.lt; replace bl := bl.below hb2 bl.lt
          clear q0 q1 p0 p1
          have q0 := bx.d0; have q1 := bx.d1; have p0 := bl.d0; have p1 := bl.d1
          go_wp2_with fail
          refine (sizeFn _ _ _ _ _ _ _ _ (Nat.le_refl _)).mono ?_; rintro e w3 ⟨rfl, hb3⟩
          have hw3 := below_then hb3 hw2.size hw2
          replace bx := bx.below hb3 bx.lt; replace bl := bl.below hb3 bl.lt
          clear q0 q1 p0 p1
          have q0 := bx.d0; have q1 := bx.d1; have p0 := bl.d0; have p1 := bl.d1
          go_wp2_with fail
          refine (arePairs _ _ _ ps _ _ _ (Nat.le_refl _) (hp.keep (keeps_below hw3))).mono ?_; rintro e w4 ⟨rfl, hb4⟩
          rw [H2.out]
          have hw4 := below_then hb4 hw3.size hw3
          replace bx := bx.below hb4 bx.lt; replace bl := bl.below hb4 bl.lt
          clear q0 q1 p0 p1
          have q0 := bx.d0; have q1 := bx.d1; have p0 := bl.d0; have p1 := bl.d1
          go_wp2_with fail
          refine (metBy _ _ _ _ _ _ z _ _ (Nat.le_refl _) (hl.keep (keeps_below hw4)) (by omega) hk1).mono ?_; rintro e w5 ⟨vm, rfl, hom, hb5⟩
          obtain ⟨Am, cm, rfl⟩ := hom.form
          have hw5 := below_then hb5 hw4.size hw4
          replace bx := bx.below hb5 bx.lt; replace bl := bl.below hb5 bl.lt
          clear q0 q1 p0 p1
          have q0 := bx.d0; have q1 := bx.d1; have p0 := bl.d0; have p1 := bl.d1
          go_wp2_with fail
          refine (brokenBy _ _ _ _ _ _ ps (compL (sortL z.2)) _ _ (Nat.le_refl _) (hp.keep (keeps_below hw5)) hom.reads HFP.out (by have := CLN.out; omega)).mono ?_; rintro e w6 ⟨v, rfl, ho, hb6⟩
          rw [BM.out] at ho
          obtain ⟨Av, cv, rfl⟩ := ho.form
          have hw6 := below_then hb6 hw5.size hw5
          replace bx := bx.below hb6 bx.lt; replace bl := bl.below hb6 bl.lt
          clear q0 q1 p0 p1
          have q0 := bx.d0; have q1 := bx.d1; have p0 := bl.d0; have p1 := bl.d1
          go_wp2
          go_ret
          exact ⟨ret_b E.out.symm, hw6.mono hB⟩
end Go.Proofs.YtjjaolndencplaaGreat
namespace Go.Proofs.YtjjaolndencplaaGreat
open Go.RowKit

theorem OI.pop {w : World} {lo g n c : Nat} {xs : List Int} (h : OI 2 w lo (.slice (some ⟨g, 0, none⟩) (n + 1) c) xs) : OI 2 w lo (.slice (some ⟨g, 0, none⟩) n c) (xs.take n) := by
  obtain ⟨h1, h2⟩ := h
  rcases h2 with ⟨e, _⟩ | ⟨g', cap, cur, e, hb, hg, hn, hc, hs, ht⟩
  · injection e with e1; cases e1
  · injection e with e1 e2 e3
    subst e3
    have hl : (xs.take n).length = n := by rw [List.length_take]; omega
    refine ⟨by simp, .inr ⟨g', c, cur, by rw [hl, e1], hb, hg, by omega, hc, hs, ?_⟩⟩
    rw [hl, List.map_take, ← ht, List.take_take, Nat.min_eq_left (by omega)]
    simp
def cntF (ms : List Bool) : Nat := ms.countP (fun x => x == false)
theorem cntF_set {ms : List Bool} {i : Nat} (hi : i < ms.length) (h : gb ms i = false) : cntF (ms.set i true) + 1 = cntF ms := by
  unfold cntF
  rw [gb_get hi] at h
  have h1 := List.countP_set (p := fun x => x == false) (a := true) (l := ms) (i := i) hi
  have h2 : 0 < ms.countP (fun x => x == false) := List.countP_pos_iff.2 ⟨ms[i], List.getElem_mem hi, by rw [h]; rfl⟩
  rw [h1, h, if_pos (by rfl), if_neg (by decide)]
  omega

def isF : Value → Bool
  | .bool false => true
  | _ => false
/-- how many cells of block b are false -/
def mB (w : World) (b : Nat) : Nat := match w.heap[b]? with
  | some (.cells cs _ _) => cs.toList.countP isF
  | _ => 0
theorem mB_row {w : World} {lo g n : Nat} {ms : List Bool} (h : OB 4 w lo (.slice (some ⟨g, 0, none⟩) n n) ms) : mB w g = cntF ms := by
  obtain ⟨h1, h2⟩ := h
  rcases h2 with ⟨e, _⟩ | ⟨g', cap, cur, e, hb, hg, hn, hc, hs, ht⟩
  · injection e with e1; cases e1
  · injection e with e1 e2 e3
    injection e1 with e1
    injection e1 with e1
    subst e1
    have hl : cur.toList = ms.map Value.bool := by
      rw [← ht, List.take_of_length_le]
      simp at hs ⊢
      omega
    unfold mB cntF
    rw [hg]
    show cur.toList.countP isF = _
    rw [hl, List.countP_map]
    apply List.countP_congr
    intro x _
    cases x <;> simp [isF]
/-- what holds the edges from v on, within ins -/
def Bey (E : List (List Int)) (ins : List Bool) (v : Nat) (P : Nat → Prop) : Prop :=
  (∀ u : Nat, (u : Int) ∈ gl E v → gb ins u = true → P u) ∧ ∀ x u : Nat, P x → (u : Int) ∈ gl E x → gb ins u = true → P u
/-- what l1Beyond has: the marks, what is to be looked at -/
def BInv (E : List (List Int)) (ins : List Bool) (n0 v : Nat) (out : List Bool) (T : List Int) : Prop :=
  out.length = n0 ∧ T.length + cntF out ≤ n0 + 1 ∧ (∀ x ∈ T, ∃ m : Nat, x = (m : Int) ∧ m < n0) ∧ ∀ P, Bey E ins v P → (∀ u, gb out u = true → P u) ∧ ∀ m : Nat, (m : Int) ∈ T → m = v ∨ P m
section
variable {E : List (List Int)} {ins out : List Bool} {n0 v x u : Nat} {T : List Int}
theorem BInv.pop {k : Nat} (h : BInv E ins n0 v out T) (hk : T.length = k + 1) : BInv E ins n0 v out (T.take k) ∧ T.take k = T.take k ∧ ∀ P, Bey E ins v P → ∀ m : Nat, (m : Int) = gi T k → m = v ∨ P m := by
  obtain ⟨h1, h2, h3, h4⟩ := h
  refine ⟨⟨h1, by rw [List.length_take]; omega, fun x hx => h3 x (List.mem_of_mem_take hx), fun P hP => ⟨(h4 P hP).1, fun m hm => (h4 P hP).2 m (List.mem_of_mem_take hm)⟩⟩, rfl, fun P hP m hm => (h4 P hP).2 m ?_⟩
  rw [hm]
  exact gi_mem (by omega)
theorem BInv.put (h : BInv E ins n0 v out T) (hx : ∀ P, Bey E ins v P → x = v ∨ P x) (hu : u < n0) (he : (u : Int) ∈ gl E x) (hi : gb ins u = true) (ho : gb out u = false) : BInv E ins n0 v (out.set u true) (T ++ [(u : Int)]) := by
  obtain ⟨h1, h2, h3, h4⟩ := h
  have hc := cntF_set (ms := out) (i := u) (by omega) ho
  have hP : ∀ P, Bey E ins v P → P u := fun P hb => by
    rcases hx P hb with e | e
    · rw [e] at he; exact hb.1 u he hi
    · exact hb.2 x u e he hi
  refine ⟨by simpa using h1, by rw [List.length_append, List.length_singleton]; omega, fun y hy => ?_, fun P hb => ⟨fun y hy => ?_, fun m hm => ?_⟩⟩
  · rcases List.mem_append.1 hy with hy | hy
    · exact h3 y hy
    · exact ⟨u, by simpa using hy, hu⟩
  · by_cases e : y = u
    · rw [e]; exact hP P hb
    · refine (h4 P hb).1 y ?_
      unfold gb at hy ⊢
      rwa [List.getD_eq_getElem?_getD, List.getElem?_set_ne (by omega), ← List.getD_eq_getElem?_getD] at hy
  · rcases List.mem_append.1 hm with hm | hm
    · exact (h4 P hb).2 m hm
    · have : (m : Int) = (u : Int) := by simpa using hm
      have e : m = u := by omega
      rw [e]; exact .inr (hP P hb)
end

end Go.Proofs.YtjjaolndencplaaGreat
namespace Go.Proofs.YtjjaolndencplaaGreat

/-- there is a way of one step or more -/
def Way (R : Nat → Nat → Prop) (v u : Nat) : Prop := ∀ P : Nat → Prop, (∀ x, R v x → P x) → (∀ x y, P x → R x y → P y) → P u
section
variable {R S : Nat → Nat → Prop} {a b c v u w : Nat}
theorem Way.one (h : R v u) : Way R v u := fun _ h1 _ => h1 u h
theorem Way.step (h : Way R v u) (k : R u w) : Way R v w := fun P h1 h2 => h2 u w (h P h1 h2) k
theorem Way.trans (h : Way R a b) (k : Way R b c) : Way R a c := k (fun x => Way R a x) (fun _ hx => h.step hx) (fun _ _ hx hy => hx.step hy)
theorem Way.head (h : R a b) (k : Way R b c) : Way R a c := (Way.one h).trans k
theorem Way.mono (h : Way R v u) (k : ∀ x y, R x y → S x y) : Way S v u := h (fun x => Way S v x) (fun _ hx => .one (k _ _ hx)) (fun _ _ hx hy => hx.step (k _ _ hy))
theorem Way.flip (h : Way R v u) : Way (fun x y => R y x) u v := h (fun x => Way (fun x y => R y x) x v) (fun _ hx => .one hx) (fun _ _ hx hy => .head hy hx)
/-- what holds at the start holds all along, if no step leaves it -/
theorem Way.inv {P : Nat → Prop} (h : Way R v u) (h0 : P v) (hs : ∀ x y, P x → R x y → P y) : P u := h P (fun x hx => hs v x h0 hx) hs
theorem Way.first (h : Way R v u) : ∃ x, R v x := h (fun _ => ∃ x, R v x) (fun x hx => ⟨x, hx⟩) (fun _ _ hx _ => hx)
theorem Way.last (h : Way R v u) : ∃ x, R x u := h (fun u => ∃ x, R x u) (fun _ hx => ⟨v, hx⟩) (fun x _ _ hy => ⟨x, hy⟩)
end
/-- both ways -/
def Both (R : Nat → Nat → Prop) (v u : Nat) : Prop := Way R v u ∧ Way R u v
theorem Both.symm {R : Nat → Nat → Prop} {v u : Nat} (h : Both R v u) : Both R u v := ⟨h.2, h.1⟩
theorem Both.trans {R : Nat → Nat → Prop} {a b c : Nat} (h : Both R a b) (k : Both R b c) : Both R a c := ⟨h.1.trans k.1, k.2.trans h.2⟩
theorem Both.self {R : Nat → Nat → Prop} {a b : Nat} (h : Both R a b) : Both R a a := ⟨h.1.trans h.2, h.1.trans h.2⟩

/-- whoever stands before w and has a way to w by what stands before it can be reached from w -/
def GoodL (R : Nat → Nat → Prop) (L : List Nat) : Prop := ∀ A w B, L = A ++ w :: B → ∀ u, u ∈ A → Way (fun x y => R x y ∧ (y ∈ A ∨ y = w)) u w → Way R w u
/-- what a search leaves behind: the list of what it has newly marked -/
structure DfsL (R : Nat → Nat → Prop) (D : Nat → Prop) (L : List Nat) : Prop where
  nodup : L.Nodup
  fresh : ∀ u, u ∈ L → ¬ D u
  closed : ∀ x, x ∈ L → ∀ y, R x y → D y ∨ y ∈ L
  good : GoodL R L
structure Dfs (R : Nat → Nat → Prop) (D : Nat → Prop) (v : Nat) (L : List Nat) : Prop extends DfsL R D L where
  mem : v ∈ L
  sound : ∀ u, u ∈ L → u = v ∨ Way (fun x y => R x y ∧ y ∈ L) v u
theorem DfsL.nil (R : Nat → Nat → Prop) (D : Nat → Prop) : DfsL R D [] := by
  refine ⟨List.nodup_nil, ?_, ?_, ?_⟩
  · intro u h; cases h
  · intro x h; cases h
  · intro A w B e
    cases A with
    | nil => cases e
    | cons _ _ => cases e
section
variable {R : Nat → Nat → Prop} {D : Nat → Prop} {M L : List Nat} {v c : Nat}
theorem good_app (hM : ∀ x, x ∈ M → ∀ y, R x y → D y ∨ y ∈ M) (gM : GoodL R M) (fL : ∀ u, u ∈ L → ¬ (D u ∨ u ∈ M)) (gL : GoodL R L) (hD : ∀ u, u ∈ M → ¬ D u) : GoodL R (M ++ L) := by
  intro A w B e u hu hw
  rcases List.append_eq_append_iff.1 e with ⟨A', e1, e2⟩ | ⟨B', e1, e2⟩
  · -- w stands in L: A = M ++ A'
    subst e1
    have hwL : w ∈ L := by rw [e2]; simp
    have hA' : ∀ y, y ∈ A' → y ∈ L := fun y hy => by rw [e2]; simp [hy]
    have stay : ∀ x y, x ∈ M → R x y ∧ (y ∈ M ++ A' ∨ y = w) → y ∈ M := fun x y hx hy => by
      rcases hM x hx y hy.1 with h | h
      · rcases hy.2 with h2 | h2
        · rcases List.mem_append.1 h2 with h3 | h3
          · exact h3
          · exact absurd (.inl h) (fL y (hA' y h3))
        · rw [h2] at h; exact absurd (.inl h) (fL w hwL)
      · exact h
    by_cases hm : u ∈ M
    · exact absurd (.inr (hw.inv (P := fun x => x ∈ M) hm stay)) (fL w hwL)
    · have hu' : u ∈ A' := (List.mem_append.1 hu).resolve_left hm
      refine gL A' w B e2 u hu' ?_
      have key : w ∈ M ∨ Way (fun x y => R x y ∧ (y ∈ A' ∨ y = w)) u w := by
        refine hw (fun x => x ∈ M ∨ Way (fun x y => R x y ∧ (y ∈ A' ∨ y = w)) u x) (fun x hx => ?_) (fun x y hx hy => ?_)
        · rcases hx.2 with h | h
          · rcases List.mem_append.1 h with h | h
            · exact .inl h
            · exact .inr (.one ⟨hx.1, .inl h⟩)
          · exact .inr (.one ⟨hx.1, .inr h⟩)
        · rcases hx with h | h
          · exact .inl (stay x y h hy)
          · rcases hy.2 with k | k
            · rcases List.mem_append.1 k with k | k
              · exact .inl k
              · exact .inr (h.step ⟨hy.1, .inl k⟩)
            · exact .inr (h.step ⟨hy.1, .inr k⟩)
      rcases key with h | h
      · exact absurd (.inr h) (fL w hwL)
      · exact h
  · -- M = A ++ B', w :: B = B' ++ L
    cases B' with
    | nil =>
      rw [List.nil_append] at e2
      have hwL : w ∈ L := by rw [← e2]; simp
      have e3 : M = A := by rw [e1]; simp
      subst e3
      have stay : ∀ x y, x ∈ M → R x y ∧ (y ∈ M ∨ y = w) → y ∈ M := fun x y hx hy => by
        rcases hM x hx y hy.1 with h | h
        · rcases hy.2 with h2 | h2
          · exact h2
          · rw [h2] at h; exact absurd (.inl h) (fL w hwL)
        · exact h
      exact absurd (.inr (hw.inv (P := fun x => x ∈ M) hu stay)) (fL w hwL)
    | cons x r =>
      rw [List.cons_append] at e2
      injection e2 with e3 e4
      subst e3
      exact gM A w r e1 u hu hw
theorem DfsL.app (hM : DfsL R D M) (hL : DfsL R (fun u => D u ∨ u ∈ M) L) : DfsL R D (M ++ L) where
  nodup := List.nodup_append.2 ⟨hM.nodup, hL.nodup, fun a ha b hb e => hL.fresh b hb (.inr (e ▸ ha))⟩
  fresh := fun u hu => by
    rcases List.mem_append.1 hu with h | h
    · exact hM.fresh u h
    · exact fun hd => hL.fresh u h (.inl hd)
  closed := fun x hx y hy => by
    rcases List.mem_append.1 hx with h | h
    · rcases hM.closed x h y hy with k | k
      · exact .inl k
      · exact .inr (List.mem_append.2 (.inl k))
    · rcases hL.closed x h y hy with (k | k) | k
      · exact .inl k
      · exact .inr (List.mem_append.2 (.inl k))
      · exact .inr (List.mem_append.2 (.inr k))
  good := good_app hM.closed hM.good (fun u hu => hL.fresh u hu) hL.good hM.fresh
/-- what a search has when it has looked at some of the successors of v -/
structure DfsI (R : Nat → Nat → Prop) (D : Nat → Prop) (v : Nat) (M : List Nat) : Prop extends DfsL R (fun u => D u ∨ u = v) M where
  sound : ∀ u, u ∈ M → Way (fun x y => R x y ∧ y ∈ M) v u
theorem DfsI.nil (R : Nat → Nat → Prop) (D : Nat → Prop) (v : Nat) : DfsI R D v [] := { DfsL.nil R _ with sound := (by intro u h; cases h) }
theorem DfsI.child (h : DfsI R D v M) (hr : R v c) (hL : Dfs R (fun u => (D u ∨ u = v) ∨ u ∈ M) c L) : DfsI R D v (M ++ L) := by
  refine { DfsL.app h.toDfsL hL.toDfsL with sound := fun u hu => ?_ }
  have inL : ∀ y, y ∈ L → y ∈ M ++ L := fun y hy => List.mem_append.2 (.inr hy)
  have inM : ∀ y, y ∈ M → y ∈ M ++ L := fun y hy => List.mem_append.2 (.inl hy)
  rcases List.mem_append.1 hu with k | k
  · exact (h.sound u k).mono fun x y hy => ⟨hy.1, inM y hy.2⟩
  · rcases hL.sound u k with e | e
    · rw [e]; exact .one ⟨hr, inL c hL.mem⟩
    · exact .head ⟨hr, inL c hL.mem⟩ (e.mono fun x y hy => ⟨hy.1, inL y hy.2⟩)
theorem DfsI.fin (h : DfsI R D v M) (hv : ¬ D v) (hc : ∀ y, R v y → (D y ∨ y = v) ∨ y ∈ M) : Dfs R D v (M ++ [v]) where
  nodup := List.nodup_append.2 ⟨h.nodup, by simp, fun a ha b hb e => h.fresh a ha (.inr (by rw [e]; exact List.mem_singleton.1 hb))⟩
  fresh := fun u hu => by
    rcases List.mem_append.1 hu with k | k
    · exact fun hd => h.fresh u k (.inl hd)
    · rw [List.mem_singleton.1 k]; exact hv
  closed := fun x hx y hy => by
    have key : (D y ∨ y = v) ∨ y ∈ M := by
      rcases List.mem_append.1 hx with k | k
      · exact h.closed x k y hy
      · rw [List.mem_singleton.1 k] at hy; exact hc y hy
    rcases key with (k | k) | k
    · exact .inl k
    · exact .inr (by simp [k])
    · exact .inr (by simp [k])
  good := by
    intro A w B e u hu hw
    rcases List.append_eq_append_iff.1 e with ⟨A', e1, e2⟩ | ⟨B', e1, e2⟩
    · cases A' with
      | nil =>
        rw [List.nil_append] at e2
        injection e2 with e3 _
        rw [List.append_nil] at e1
        rw [e1] at hu
        rw [← e3]
        exact (h.sound u hu).mono fun x y hy => hy.1
      | cons x r =>
        rw [List.cons_append] at e2
        injection e2 with _ e4
        cases r <;> cases e4
    · cases B' with
      | nil =>
        rw [List.nil_append] at e2
        injection e2 with e3 _
        have e5 : M = A := by rw [e1]; simp
        rw [← e5] at hu
        rw [e3]
        exact (h.sound u hu).mono fun x y hy => hy.1
      | cons x r =>
        rw [List.cons_append] at e2
        injection e2 with e3 e4
        subst e3
        exact h.good A w r e1 u hu hw
  mem := by simp
  sound := fun u hu => by
    rcases List.mem_append.1 hu with k | k
    · exact .inr ((h.sound u k).mono fun x y hy => ⟨hy.1, by simp [hy.2]⟩)
    · exact .inl (List.mem_singleton.1 k)
end
/-- the second pass: what is found from the last one left, backwards -/
theorem part_is {R : Nat → Nat → Prop} {O L : List Nat} {D : Nat → Prop} {A B : List Nat} {v : Nat} (hO : GoodL R O) (hcov : ∀ x y, R x y → x ∈ O ∧ y ∈ O) (e : O = A ++ v :: B) (hB : ∀ x, x ∈ B → D x) (hD : ∀ x y, D x → Both R x y → D y) (hv : ¬ D v)
    (hL : Dfs (fun x y => R y x) D v L) : ∀ u, u ∈ L ↔ u = v ∨ Both R v u := by
  intro u
  have noD : ∀ y, y ∈ L → ¬ D y := hL.fresh
  have toV : ∀ y, y ∈ L → y = v ∨ Way R y v := fun y hy => (hL.sound y hy).imp id (fun k => k.flip.mono fun _ _ h => h.1)
  have hin : ∀ x, x ∈ O → x ∈ L → x ∈ A ∨ x = v := fun x hx hxl => by
    rw [e] at hx
    rcases List.mem_append.1 hx with h | h
    · exact .inl h
    · rcases List.mem_cons.1 h with h | h
      · exact .inr h
      · exact absurd (hB x h) (noD x hxl)
  constructor
  · intro hu
    by_cases e1 : u = v
    · exact .inl e1
    have k := (hL.sound u hu).resolve_left e1
    have hwR : Way R u v := (toV u hu).resolve_left e1
    have huO : u ∈ O := by
      obtain ⟨x, hx⟩ := hwR.first
      exact (hcov u x hx).1
    refine .inr ⟨hO A v B e u ((hin u huO hu).resolve_right e1) ?_, hwR⟩
    have k2 : u ∈ L ∧ Way (fun x y => R y x ∧ y ∈ L ∧ (x = v ∨ x ∈ L)) v u := by
      refine k (fun x => x ∈ L ∧ Way (fun x y => R y x ∧ y ∈ L ∧ (x = v ∨ x ∈ L)) v x) (fun x hx => ⟨hx.2, .one ⟨hx.1, hx.2, .inl rfl⟩⟩) (fun x y hx hy => ⟨hy.2, hx.2.step ⟨hy.1, hy.2, .inr hx.1⟩⟩)
    refine k2.2.flip.mono fun x y h => ⟨h.1, ?_⟩
    rcases h.2.2 with h3 | h3
    · exact .inr h3
    · exact hin y (hcov x y h.1).2 h3
  · intro hu
    rcases hu with k | k
    · rw [k]; exact hL.mem
    · refine Decidable.byContradiction fun hn => ?_
      have no : ∀ x y, x ∉ L → Way R v x → R x y → y ∉ L := fun x y hx hvx hr hy => by
        rcases hL.closed y hy x hr with h | h
        · refine hv (hD x v h ⟨?_, hvx⟩)
          rcases toV y hy with h2 | h2
          · rw [h2] at hr; exact .one hr
          · exact .head hr h2
        · exact hx h
      have key : v ∉ L ∧ Way R v v := k.2 (fun x => x ∉ L ∧ Way R v x) (fun x hx => ⟨no u x hn k.1 hx, k.1.step hx⟩) (fun x y hx hy => ⟨no x y hx.1 hx.2 hy, hx.2.step hy⟩)
      exact key.1 hL.mem
/-- the parts: each that comes back to itself lies in one, and each is all that goes there and back -/
def isParts (R : Nat → Nat → Prop) (ps : List (List Int)) : Prop := (∀ p, p ∈ ps → ∃ v, Both R v v ∧ ∀ x : Int, x ∈ p ↔ ∃ u : Nat, x = (u : Int) ∧ Both R v u) ∧ ∀ v, Both R v v → ∃ p, p ∈ ps ∧ (v : Int) ∈ p
end Go.Proofs.YtjjaolndencplaaGreat
namespace Go.Proofs.YtjjaolndencplaaGreat
open Go.RowKit

/-- a queue: empty, or a piece of a row of the call's own -/
def OQ (w : World) (lo : Nat) (v : Value) (xs : List Int) : Prop :=
  (xs = [] ∧ ∃ A, v = .slice A 0 0) ∨ ∃ g off cap cur, v = .slice (some ⟨g, off, none⟩) xs.length cap ∧ lo ≤ g ∧ w.heap[g]? = some (.cells cur 2 (0, 0)) ∧ xs.length ≤ cap ∧ off + cap ≤ cur.size ∧ cap ≤ maxLen ∧ ∀ j, j < xs.length → cur.toList[off + j]? = some (.int .i64 (gi xs j))
section
variable {w w' : World} {lo : Nat} {v : Value} {xs : List Int}
theorem OQ.of (h : OI 2 w lo v xs) : OQ w lo v xs := by
  obtain ⟨h1, h2⟩ := h
  rcases h2 with ⟨e, h0⟩ | ⟨g, cap, cur, e, hb, hg, hn, hc, hs, ht⟩
  · exact .inl ⟨List.eq_nil_of_length_eq_zero h0, none, e⟩
  · refine .inr ⟨g, 0, cap, cur, e, hb, hg, hn, by omega, hc, fun j hj => ?_⟩
    have := congrArg (fun x => x[j]?) ht
    simp only [List.getElem?_take, Nat.mul_one, hj, if_true] at this
    rw [Nat.zero_add, this, List.getElem?_map, List.getElem?_eq_getElem hj, gi_get hj]
    rfl
theorem OQ.form (h : OQ w lo v xs) : ∃ A c, v = .slice A xs.length c ∧ xs.length ≤ c ∧ c ≤ 9223372036854775807 := by
  rcases h with ⟨rfl, A, rfl⟩ | ⟨g, off, cap, cur, rfl, _, _, h4, _, h5, _⟩
  · exact ⟨A, 0, rfl, Nat.le_refl _, by omega⟩
  · exact ⟨_, _, rfl, h4, by unfold maxLen at h5; omega⟩
theorem OQ.on (h : OQ w lo v xs) (hb : Below w.heap.size w w') : OQ w' lo v xs := by
  rcases h with h | ⟨g, off, cap, cur, h1, h2, h3, h4⟩
  · exact .inl h
  · exact .inr ⟨g, off, cap, cur, h1, h2, (hb.block g (Array.getElem?_eq_some_iff.1 h3).1).trans h3, h4⟩
theorem OQ.far {p : Addr} (h : OQ w lo v xs) (hp : p.block < lo) (u : Value) : OQ (w.setCell p u) lo v xs := by
  rcases h with h | ⟨g, off, cap, cur, h1, h2, h3, h4⟩
  · exact .inl h
  · exact .inr ⟨g, off, cap, cur, h1, h2, ((Chg.set (w := w) p u).block g (Array.getElem?_eq_some_iff.1 h3).1 (fun e => by have h5 : g = p.block := e; omega)).trans h3, h4⟩
theorem OQ.up {lo' : Nat} (h : OQ w lo v xs) (hl : lo' ≤ lo) : OQ w lo' v xs := by
  rcases h with h | ⟨g, off, cap, cur, h1, h2, h3, h4⟩
  · exact .inl h
  · exact .inr ⟨g, off, cap, cur, h1, Nat.le_trans hl h2, h3, h4⟩
/-- what is taken from the front, and what is left -/
theorem OQ.pop {x : Int} {r : List Int} (h : OQ w lo v (x :: r)) : ∃ g off c, v = .slice (some ⟨g, off, none⟩) (r.length + 1) (c + 1) ∧ r.length ≤ c ∧ c + 1 ≤ 9223372036854775807 ∧ w.cell? ⟨g, off, none⟩ = some (.int .i64 x) ∧
    (c = 0 → OQ w lo (.slice (some ⟨g, off, none⟩) 0 0) r) ∧ (c ≠ 0 → OQ w lo (.slice (some ⟨g, off + 1, none⟩) r.length c) r) := by
  rcases h with ⟨e, _⟩ | ⟨g, off, cap, cur, h1, h2, h3, h4, h5, h6, h7⟩
  · cases e
  · rw [List.length_cons] at h1 h4
    obtain ⟨c, rfl⟩ : ∃ c, cap = c + 1 := ⟨cap - 1, by omega⟩
    refine ⟨g, off, c, h1, by omega, by unfold maxLen at h6; omega, ?_, fun h0 => ?_, fun h0 => ?_⟩
    · have := h7 0 (by simp)
      rw [cell_of_row w g off cur _ _ h3]
      rw [Nat.add_zero] at this
      simpa [gi] using this
    · exact .inl ⟨List.eq_nil_of_length_eq_zero (by omega), _, rfl⟩
    · refine .inr ⟨g, off + 1, c, cur, rfl, h2, h3, by omega, by omega, by omega, fun j hj => ?_⟩
      have := h7 (j + 1) (by simp; omega)
      rw [show off + 1 + j = off + (j + 1) by omega, this]
      simp [gi]
end
theorem row_room (w : World) (ty g off n cap : Nat) (cur : Array Value) (hg : w.heap[g]? = some (.cells cur 2 (0, 0))) (a : Addr) (m c : Nat) (news : List Value) (hl : news.length = m) (hnews : ∀ j u, news[j]? = some u → w.cell? (a.add j) = some u) (h1 : ∀ u ∈ news, u.oneCell' = true)
    (hroom : n + m ≤ cap) (hfit : off + n + m ≤ cur.size) :
    (Builtin.append_ #[27, 27] ty #[.slice (some ⟨g, off, none⟩) n cap, .slice (some a) m c]).run Tryz.prog w =
      .ok (.slice (some ⟨g, off, none⟩) (n + m) cap) (w.setRow g (cur.toList.take (off + n) ++ news ++ cur.toList.drop (off + n + m)).toArray) := by
  subst hl
  obtain ⟨i0, hi0, hz0, hz1, hz2⟩ := info_parts infoI'
  have hf := run_firstCells_some (P := Tryz.prog) w 1 news.length a news.length c news (by omega) hnews
  have hst := run_storeCells_at Tryz.prog g (off + n) 2 news 0 cur w hg (by simpa using hfit) h1
  simp only [Nat.add_zero] at hst
  have ha : (⟨g, off, none⟩ : Addr).add n = ⟨g, off + n, none⟩ := by unfold Addr.add; split <;> simp_all
  simp [Builtin.append_, run_underlying Tryz.underlying27, sizeOf, typeInfo, hi0, hz1, Builtin.lenOf, hroom, hf, ha, hst]
/-- append of one number to a queue -/
theorem wp_pushQ {o : Oper} {a : Act} {K : Act → World → Prop} {Q : Exit → Act → World → Prop} (s x : Operand)
    (ho : o.op = .call { callee := .builtin .append, args := #[s, x], argTypes := #[27, 27] })
    (w : World) (H : Nat) (hH : w.heap.size = H) (lo : Nat) (v : Value) (xs : List Int) (hs : a.eval s = v) (hown : OQ w lo v xs) (y : Int) (hx : a.eval x = .slice (some ⟨H, 0, none⟩) 1 1)
    (hn : xs.length ≤ 4194304) (hlo : lo ≤ H)
    (h : ∀ v' w', OQ w' lo v' (xs ++ [y]) → Below lo w w' → K (a.put o.dst v') w') : o.wp Tryz.prog a (w.alloc (.cells #[.int .i64 y] 2)) K Q := by
  subst hH
  obtain ⟨i0, hi0, hz0, hz1, hz2⟩ := info_parts infoI'
  have hba : Below w.heap.size w (w.alloc (.cells #[.int .i64 y] 2)) := below_alloc (Nat.le_refl _) (Below.refl _ _)
  have hnew : ∀ j u, [Value.int .i64 y][j]? = some u → (w.alloc (.cells #[.int .i64 y] 2)).cell? ((⟨w.heap.size, 0, none⟩ : Addr).add j) = some u := push_news ((Box.new w _ _).cell 0)
  have hown2 := hown.on hba
  generalize hw1 : w.alloc (.cells #[.int .i64 y] 2) = w1 at *
  have hlo1 : lo ≤ w1.heap.size := Nat.le_trans hlo hba.size
  have fin : ∀ (old : Nat), OQ (w1.drew.alloc (.cells ((xs.map (Value.int .i64)).toArray ++ #[.int .i64 y] ++ Builtin.zeroCells (Value.int .i64 0).cells (grownCap w1 (xs.length + 1) old 2 - (xs.length + 1))) 2)) lo (.slice (some ⟨w1.heap.size, 0, none⟩) (xs.length + 1) (grownCap w1 (xs.length + 1) old 2)) (xs ++ [y]) := fun old => by
    have hge := grownCap_ge w1 (xs.length + 1) old 2
    have hle := grownCap_le_maxLen w1 (xs.length + 1) old 2 (by unfold maxLen; omega)
    refine .inr ⟨w1.heap.size, 0, _, _, by rw [List.length_append, List.length_singleton], hlo1, heap_alloc_new w1.drew _, by rw [List.length_append, List.length_singleton]; exact hge, ?_, hle, fun j hj => ?_⟩
    · have hz1 : (Value.int IntKind.i64 0).cells.size = 1 := rfl
      simp only [Array.size_append, List.size_toArray, size_zeroCells, hz1, List.length_map, List.length_singleton]
      omega
    · rw [List.length_append, List.length_singleton] at hj
      rw [Nat.zero_add, Array.toList_append, Array.toList_append]
      rw [List.getElem?_append_left (by simp; omega)]
      by_cases e : j < xs.length
      · rw [List.getElem?_append_left (by simpa using e)]
        simp [e, gi, List.getElem?_append_left]
      · obtain rfl : j = xs.length := by omega
        rw [List.getElem?_append_right (by simp)]
        simp [gi]
  have newb : ∀ o, Below w1.heap.size w1 (w1.drew.alloc o) := fun o => below_alloc (Nat.le_refl _) (below_drewN (Below.refl _ _) 1)
  unfold Oper.wp execOp
  rcases hown2 with ⟨rfl, A, rfl⟩ | ⟨g, off, cap, cur, rfl, h2, h3, h4, h5, h6, h7⟩
  · cases A with
    | none =>
      have hr := run_append_nil (P := Tryz.prog) w1 27 o.type 2 i0 (.int .i64 0) Tryz.underlying27 hi0 hz0 ⟨w.heap.size, 0, none⟩ 1 1 [.int .i64 y] (by rw [hz1]; rfl) hnew (by decide) (by decide) (by rw [hz2]; decide)
      simp only [ho, resolve, invoke, builtin, Sem.run_bind, Sem.run_pure, Result.andThen_ok, List.map_toArray, List.map_cons, List.map_nil, hs, hx, hr]
      have k := fin 0
      simp only [List.map_nil, List.length_nil, Nat.zero_add] at k
      exact h _ _ (by simpa using k) ((hba.mono hlo).trans ((newb _).mono hlo1))
    | some b =>
      have hr := run_append_grow (P := Tryz.prog) w1 27 o.type 2 i0 (.int .i64 0) Tryz.underlying27 hi0 hz0 b 0 0 [] (by simp) (fun j v hv => by cases hv) ⟨w.heap.size, 0, none⟩ 1 1 [.int .i64 y] (by rw [hz1]; rfl) hnew (by omega) (by omega) (by rw [hz2]; exact growslice_fits (by omega) (by omega))
      simp only [ho, resolve, invoke, builtin, Sem.run_bind, Sem.run_pure, Result.andThen_ok, List.map_toArray, List.map_cons, List.map_nil, hs, hx, hr]
      have k := fin 0
      simp only [List.map_nil, List.length_nil, Nat.zero_add] at k
      exact h _ _ (by simpa using k) ((hba.mono hlo).trans ((newb _).mono hlo1))
  · by_cases hroom : xs.length + 1 ≤ cap
    · have hr := row_room w1 o.type g off xs.length cap cur h3 ⟨w.heap.size, 0, none⟩ 1 1 [.int .i64 y] rfl hnew (by simp [Value.oneCell']) hroom (by omega)
      simp only [ho, resolve, invoke, builtin, Sem.run_bind, Sem.run_pure, Result.andThen_ok, List.map_toArray, List.map_cons, List.map_nil, hs, hx, hr]
      refine h _ _ (.inr ⟨g, off, cap, _, by rw [List.length_append, List.length_singleton], h2, setRow_heap w1 g cur _ _ _ h3, by rw [List.length_append, List.length_singleton]; exact hroom, ?_, h6, fun j hj => ?_⟩) ((hba.mono hlo).trans ⟨rfl, rfl, rfl, by simp, fun k hk => setRow_other w1 g k _ (by omega)⟩)
      · simp only [List.size_toArray, List.length_append, List.length_take, List.length_drop, Array.length_toList, List.length_singleton]
        omega
      · rw [List.length_append, List.length_singleton] at hj
        show (cur.toList.take (off + xs.length) ++ [Value.int .i64 y] ++ cur.toList.drop (off + xs.length + 1))[off + j]? = _
        rw [List.getElem?_append_left (by simp; omega)]
        by_cases e : j < xs.length
        · rw [List.getElem?_append_left (by simp; omega), List.getElem?_take, if_pos (by omega), h7 j e]
          simp [gi, List.getElem?_append_left, e]
        · obtain rfl : j = xs.length := by omega
          rw [List.getElem?_append_right (by simp; omega)]
          have hm : min (off + xs.length) cur.size = off + xs.length := by omega
          simp [gi, hm]
    · have hold : ∀ j u, (xs.map (Value.int .i64))[j]? = some u → w1.cell? ((⟨g, off, none⟩ : Addr).add j) = some u := fun j u hu => by
        have hj : j < xs.length := by have := (List.getElem?_eq_some_iff.1 hu).1; simpa using this
        have ha : (⟨g, off, none⟩ : Addr).add j = ⟨g, off + j, none⟩ := by unfold Addr.add; split <;> simp_all
        rw [ha, cell_of_row w1 g (off + j) cur _ _ h3]
        have := h7 j hj
        rw [List.getElem?_map, List.getElem?_eq_getElem hj, ← gi_get hj] at hu
        rw [← hu]
        simpa using this
      have hr := run_append_grow (P := Tryz.prog) w1 27 o.type 2 i0 (.int .i64 0) Tryz.underlying27 hi0 hz0 ⟨g, off, none⟩ xs.length cap (xs.map (Value.int .i64)) (by rw [hz1]; simp) hold ⟨w.heap.size, 0, none⟩ 1 1 [.int .i64 y] (by rw [hz1]; rfl) hnew (by omega) (by omega) (by rw [hz2]; exact growslice_fits (by omega) (by omega))
      simp only [ho, resolve, invoke, builtin, Sem.run_bind, Sem.run_pure, Result.andThen_ok, List.map_toArray, List.map_cons, List.map_nil, hs, hx, hr]
      exact h _ _ (fin cap) ((hba.mono hlo).trans ((newb _).mono hlo1))
theorem wpList_pushQ {ops : Array Oper} {rest : List Oper} {o : Oper} {a : Act} {Q : Exit → Act → World → Prop} (hgd : o.guard = none) (s x : Operand)
    (ho : o.op = .call { callee := .builtin .append, args := #[s, x], argTypes := #[27, 27] })
    (w : World) (H : Nat) (hH : w.heap.size = H) (lo : Nat) (v : Value) (xs : List Int) (hs : a.eval s = v) (hown : OQ w lo v xs) (y : Int) (hx : a.eval x = .slice (some ⟨H, 0, none⟩) 1 1)
    (hn : xs.length ≤ 4194304) (hlo : lo ≤ H)
    (h : ∀ v' w', OQ w' lo v' (xs ++ [y]) → Below lo w w' → wpList Tryz.prog ops Q rest (a.put o.dst v') w') : wpList Tryz.prog ops Q (o :: rest) a (w.alloc (.cells #[.int .i64 y] 2)) :=
  wpList_plain hgd fun _ hK => wp_pushQ s x ho w H hH lo v xs hs hown y hx hn hlo fun v' w' h1 h2 => hK _ _ (h v' w' h1 h2)
end Go.Proofs.YtjjaolndencplaaGreat
namespace Go.Proofs.YtjjaolndencplaaGreat
open Go.RowKit

/-- an edge within a set -/
def RW (n : List (List Int)) (ins : List Bool) (x y : Nat) : Prop := gb ins x = true ∧ gb ins y = true ∧ (y : Int) ∈ gl n x
def Shut (n : List (List Int)) (ins out : List Bool) (x : Nat) : Prop := ∀ u : Nat, (u : Int) ∈ gl n x → gb ins u = true → gb out u = true
structure AB (n : List (List Int)) (ins : List Bool) (N v : Nat) (out : List Bool) (T : List Int) : Prop where
  len : out.length = N
  cnt : T.length + cntF out ≤ N + 1
  rng : ∀ x, x ∈ T → ∃ m : Nat, x = (m : Int) ∧ m < N ∧ gb ins m = true
  sound : ∀ u, gb out u = true → Way (RW n ins) v u
  src : ∀ m : Nat, (m : Int) ∈ T → m = v ∨ gb out m = true
structure AO (n : List (List Int)) (ins : List Bool) (N v : Nat) (out : List Bool) (T : List Int) : Prop extends AB n ins N v out T where
  full : ∀ y : Nat, y = v ∨ gb out y = true → (y : Int) ∈ T ∨ Shut n ins out y
structure AI2 (n : List (List Int)) (ins : List Bool) (N v x j : Nat) (out : List Bool) (T : List Int) : Prop extends AB n ins N v out T where
  at_ : x = v ∨ gb out x = true
  full : ∀ y : Nat, y = v ∨ gb out y = true → (y : Int) ∈ T ∨ y = x ∨ Shut n ins out y
  row : ∀ i, i < j → i < (gl n x).length → ∀ u : Nat, gi (gl n x) i = (u : Int) → gb ins u = true → gb out u = true
theorem gb_repF {n u : Nat} : gb (List.replicate n false) u = false := by
  unfold gb
  rw [List.getD_eq_getElem?_getD, List.getElem?_replicate]
  split <;> rfl
theorem gb_setT {ls : List Bool} {u y : Nat} (h : gb (ls.set u true) y = true) : y = u ∨ gb ls y = true := by
  unfold gb at *
  by_cases e : u = y
  · exact .inl e.symm
  · rw [List.getD_eq_getElem?_getD, List.getElem?_set_ne e, ← List.getD_eq_getElem?_getD] at h
    exact .inr h
theorem gb_setK {ls : List Bool} {u y : Nat} (h : gb ls y = true) : gb (ls.set u true) y = true := by
  unfold gb at *
  by_cases e : u = y
  · subst e
    by_cases hl : u < ls.length
    · rw [List.getD_eq_getElem?_getD, List.getElem?_set_self hl]; rfl
    · rw [List.set_eq_of_length_le (by omega)]; exact h
  · rw [List.getD_eq_getElem?_getD, List.getElem?_set_ne e, ← List.getD_eq_getElem?_getD]
    exact h
theorem gb_setS {ls : List Bool} {u : Nat} (hu : u < ls.length) : gb (ls.set u true) u = true := by
  unfold gb
  rw [List.getD_eq_getElem?_getD, List.getElem?_set_self hu]; rfl
section
variable {n : List (List Int)} {ins out : List Bool} {N v x j u : Nat} {T r : List Int}
theorem AO.start (hv : v < N) (hi : gb ins v = true) : AO n ins N v (List.replicate N false) [(v : Int)] where
  len := by simp
  cnt := by
    have : cntF (List.replicate N false) ≤ N := by unfold cntF; exact Nat.le_trans List.countP_le_length (by simp)
    simp; omega
  rng := fun x hx => ⟨v, by simpa using hx, hv, hi⟩
  sound := fun u hu => by rw [gb_repF] at hu; cases hu
  src := fun m hm => .inl (by have : (m : Int) = (v : Int) := by simpa using hm
                              omega)
  full := fun y hy => by
    rcases hy with rfl | hy
    · exact .inl (by simp)
    · rw [gb_repF] at hy; cases hy
theorem AO.pop (h : AO n ins N v out ((x : Int) :: r)) : AI2 n ins N v x 0 out r where
  len := h.len
  cnt := by have := h.cnt; simp at this; omega
  rng := fun y hy => h.rng y (List.mem_cons_of_mem _ hy)
  sound := h.sound
  src := fun m hm => h.src m (List.mem_cons_of_mem _ hm)
  at_ := h.src x List.mem_cons_self
  full := fun y hy => by
    rcases h.full y hy with k | k
    · rcases List.mem_cons.1 k with k | k
      · exact .inr (.inl (by omega))
      · exact .inl k
    · exact .inr (.inr k)
  row := fun i hi => absurd hi (by omega)
theorem AI2.skip (h : AI2 n ins N v x j out T) (hj : j < (gl n x).length) (hu : gi (gl n x) j = (u : Int)) (ho : gb ins u = true → gb out u = true) : AI2 n ins N v x (j + 1) out T :=
  { h with
    row := fun i hi hl m hm hin => by
      by_cases e : i = j
      · subst e
        have : u = m := by omega
        subst this
        exact ho hin
      · exact h.row i (by omega) hl m hm hin }
theorem AI2.put (h : AI2 n ins N v x j out T) (hj : j < (gl n x).length) (hu : gi (gl n x) j = (u : Int)) (hun : u < N) (hx : gb ins x = true) (hi : gb ins u = true) (ho : gb out u = false) : AI2 n ins N v x (j + 1) (out.set u true) (T ++ [(u : Int)]) where
  len := by simpa using h.len
  cnt := by
    have := cntF_set (ms := out) (i := u) (by rw [h.len]; exact hun) ho
    have := h.cnt
    rw [List.length_append, List.length_singleton]; omega
  rng := fun y hy => by
    rcases List.mem_append.1 hy with k | k
    · exact h.rng y k
    · exact ⟨u, by simpa using k, hun, hi⟩
  sound := fun y hy => by
    rcases gb_setT hy with rfl | k
    · have he : (y : Int) ∈ gl n x := by rw [← hu]; exact gi_mem hj
      rcases h.at_ with e | e
      · rw [e] at hx he; exact .one ⟨hx, hi, he⟩
      · exact (h.sound x e).step ⟨hx, hi, he⟩
    · exact h.sound y k
  src := fun m hm => by
    rcases List.mem_append.1 hm with k | k
    · exact (h.src m k).imp id gb_setK
    · have : m = u := by have : (m : Int) = (u : Int) := by simpa using k
                         omega
      rw [this]; exact .inr (gb_setS (by rw [h.len]; exact hun))
  at_ := h.at_.imp id gb_setK
  full := fun y hy => by
    have old : y = v ∨ gb out y = true → (y : Int) ∈ T ++ [(u : Int)] ∨ y = x ∨ Shut n ins (out.set u true) y := fun hy => by
      rcases h.full y hy with k | k | k
      · exact .inl (List.mem_append.2 (.inl k))
      · exact .inr (.inl k)
      · exact .inr (.inr fun m hm hin => gb_setK (k m hm hin))
    rcases hy with hy | hy
    · exact old (.inl hy)
    · rcases gb_setT hy with rfl | k
      · exact .inl (by simp)
      · exact old (.inr k)
  row := fun i hi' hl m hm hin => by
    by_cases e : i = j
    · subst e
      have : u = m := by omega
      subst this
      exact gb_setS (by rw [h.len]; exact hun)
    · exact gb_setK (h.row i (by omega) hl m hm hin)
theorem AI2.fin (h : AI2 n ins N v x j out T) (hj : (gl n x).length ≤ j) : AO n ins N v out T :=
  { h with
    full := fun y hy => by
      rcases h.full y hy with k | k | k
      · exact .inl k
      · refine .inr fun m hm hin => ?_
        rw [k] at hm
        obtain ⟨i, hi, e⟩ := mem_gi hm
        exact h.row i (by omega) hi m e hin
      · exact .inr k }
theorem AO.fin (h : AO n ins N v out []) : ∀ u, gb out u = true ↔ Way (RW n ins) v u := by
  have shut : ∀ y, y = v ∨ gb out y = true → Shut n ins out y := fun y hy => (h.full y hy).resolve_left (by simp)
  exact fun u => ⟨h.sound u, fun hw => hw (fun x => gb out x = true) (fun x hx => shut v (.inl rfl) x hx.2.2 hx.2.1) (fun x y hx hy => shut x (.inr hx) y hy.2.2 hy.2.1)⟩
end
end Go.Proofs.YtjjaolndencplaaGreat
namespace Go.Proofs.YtjjaolndencplaaGreat
open Go.RowKit

section
variable {w w' : World} {s0 s1 s2 : Value} {g : ParD} {A0 A1 A2 : Option Addr} {n0 c0 n1 c1 n2 c2 : Nat}
theorem RPv.form (h : RPv w s0 s1 s2 g) : ∃ A0 n0 c0 A1 n1 c1 A2 n2 c2, s0 = .slice A0 n0 c0 ∧ s1 = .slice A1 n1 c1 ∧ s2 = .slice A2 n2 c2 := by
  obtain ⟨h1, A, m, c, e, _⟩ := h
  obtain ⟨A0, n0, c0, A1, n1, c1, e0, e1⟩ := h1.form
  exact ⟨A0, n0, c0, A1, n1, c1, A, m, c, e0, e1, e⟩
theorem RPv.ri (h : RPv w (.slice A0 n0 c0) (.slice A1 n1 c1) (.slice A2 n2 c2) g) : RI w A0 n0 c0 g.1 := h.1.ri
theorem RPv.rii (h : RPv w (.slice A0 n0 c0) (.slice A1 n1 c1) (.slice A2 n2 c2) g) : RII w A1 n1 c1 g.2.1 := h.1.rii
theorem RPv.of (h : RI w A0 n0 c0 g.1) (k : RII w A1 n1 c1 g.2.1) (l : RI w A2 n2 c2 g.2.2) : RPv w (.slice A0 n0 c0) (.slice A1 n1 c1) (.slice A2 n2 c2) g := ⟨RAv.of h k, _, _, _, rfl, l⟩
end
theorem OPar.join {wC wF : World} {lo loC : Nat} {v0 v1 v2 : Value} {g : ParD} (h : OArn wC loC v0 v1 (g.1, g.2.1)) (f : Far loC wC wF) (h1 : OI 2 wF lo v2 g.2.2) (hlo : lo ≤ loC) (hap : ∀ b, v2.ownBlock = some b → b < loC ∨ wC.heap.size ≤ b) : OPar wF lo v0 v1 v2 g := by
  obtain ⟨cs, h, hd⟩ := h
  have hx : ∀ u, (∀ b, u.ownBlock = some b → loC ≤ b ∧ b < wC.heap.size) → Apart u v2 := fun u hu => by
    unfold Apart
    cases e : u.ownBlock with
    | none => exact .inl rfl
    | some b =>
      right
      intro e2
      have := hu b e
      have := hap b e2.symm
      omega
  refine ⟨cs, (h.hold f).more hlo, h1, Dis.cons (Dis.cons hd.tail fun i hi => (hx _ (h.2.2.lt i hi)).symm) fun i hi => ?_⟩
  cases i with
  | zero => exact hx _ h.1.lt
  | succ i =>
    have hi' : i < cs.length := by simpa using hi
    have := hd 0 (i + 1) (by simp) (by simpa using hi') (by omega)
    simpa [gv] using this
theorem Chg.one {w : World} (b i : Nat) (u : Value) : Chg (fun x => x = b) w (w.setCell ⟨b, i, none⟩ u) := Chg.set ⟨b, i, none⟩ u
end Go.Proofs.YtjjaolndencplaaGreat
namespace Go.Proofs.YtjjaolndencplaaGreat
open Go.RowKit

section
variable {w0 wr w : World} {s0 s1 s2 t0 t1 t2 : Value} {g g' : ParD}
end
theorem Box.c0 {w : World} {b : Nat} {t : TypeId} {x0 x1 x2 : Value} (h : Box w b t #[x0, x1, x2]) : w.cell? ⟨b, 0, none⟩ = some x0 := h.cell 0
theorem Box.c1 {w : World} {b : Nat} {t : TypeId} {x0 x1 x2 : Value} (h : Box w b t #[x0, x1, x2]) : w.cell? ⟨b, 1, none⟩ = some x1 := h.cell 1
theorem Box.c2 {w : World} {b : Nat} {t : TypeId} {x0 x1 x2 : Value} (h : Box w b t #[x0, x1, x2]) : w.cell? ⟨b, 2, none⟩ = some x2 := h.cell 2
end Go.Proofs.YtjjaolndencplaaGreat
namespace Go.Proofs.YtjjaolndencplaaGreat
open Go.RowKit

noncomputable def clB (p : Prop) : Bool := @decide p (Classical.propDecidable _)
theorem clB_yes {p : Prop} (h : p) : clB p = true := @decide_eq_true _ (Classical.propDecidable _) h
theorem clB_no {p : Prop} (h : ¬ p) : clB p = false := @decide_eq_false _ (Classical.propDecidable _) h
theorem clB_iff {p : Prop} : clB p = true ↔ p := @decide_eq_true_iff _ (Classical.propDecidable _)
end Go.Proofs.YtjjaolndencplaaGreat
namespace Go.Proofs.YtjjaolndencplaaGreat
open Go.RowKit

end Go.Proofs.YtjjaolndencplaaGreat
namespace Go.Proofs.YtjjaolndencplaaGreat
open Go.RowKit

/-- the part of a vertex, as a list -/
noncomputable def partL (n : List (List Int)) (ins : List Bool) (N v : Nat) : List Int := pick (fun u => clB (Both (RW n ins) v u)) (fun u => (u : Int)) N
section
variable {n : List (List Int)} {ins : List Bool} {N v : Nat}
theorem mem_part {x : Int} : x ∈ partL n ins N v ↔ ∃ u : Nat, u < N ∧ Both (RW n ins) v u ∧ x = (u : Int) := by
  unfold partL
  rw [mem_pick]
  constructor
  · rintro ⟨u, hu, h, rfl⟩; exact ⟨u, hu, clB_iff.1 h, rfl⟩
  · rintro ⟨u, hu, h, rfl⟩; exact ⟨u, hu, clB_iff.2 h, rfl⟩
theorem part_set : setB (partL n ins N v) (N : Int) = true :=
  setB_of_rises (pick_rises fun i j h _ => by omega) (fun x hx => by obtain ⟨u, hu, _, rfl⟩ := mem_part.1 hx; omega)
theorem RW.in {x y : Nat} (h : RW n ins x y) : gb ins x = true ∧ gb ins y = true := ⟨h.1, h.2.1⟩
theorem both_in {x y : Nat} (h : Both (RW n ins) x y) : gb ins x = true ∧ gb ins y = true := by
  obtain ⟨a, ha⟩ := h.1.first
  obtain ⟨b, hb⟩ := h.2.first
  exact ⟨ha.1, hb.1⟩
theorem part_none (h : ¬ Way (RW n ins) v v) : partL n ins N v = [] := by
  unfold partL
  refine List.eq_nil_iff_forall_not_mem.2 fun x hx => ?_
  obtain ⟨u, _, hb, _⟩ := mem_pick.1 hx
  exact h (clB_iff.1 hb).self.1
end
/-- what l16Parts has when it has looked at the vertices below k -/
structure PUp (n : List (List Int)) (ins : List Bool) (N k : Nat) (ps : List (List Int)) (done : List Bool) : Prop where
  len : done.length = N
  few : ps.length ≤ k
  sets : ∀ p, p ∈ ps → setB p (N : Int) = true
  parts : ∀ p, p ∈ ps → ∃ v, Both (RW n ins) v v ∧ ∀ x : Int, x ∈ p ↔ ∃ u : Nat, x = (u : Int) ∧ Both (RW n ins) v u
  all : ∀ v, v < k → Both (RW n ins) v v → ∃ p, p ∈ ps ∧ (v : Int) ∈ p
  done : ∀ u, gb done u = true → ∃ p, p ∈ ps ∧ (u : Int) ∈ p
section
variable {n : List (List Int)} {ins : List Bool} {N k : Nat} {ps : List (List Int)} {done : List Bool}
theorem PUp.start : PUp n ins N 0 [] (List.replicate N false) :=
  { len := by simp
    few := Nat.le_refl _
    sets := by intro p h; cases h
    parts := by intro p h; cases h
    all := by intro v h; omega
    done := by intro u h; rw [gb_repF] at h; cases h }
theorem PUp.pass (h : PUp n ins N k ps done) (hk : gb ins k = false ∨ gb done k = true ∨ partL n ins N k = []) (hins : ins.length = N) : PUp n ins N (k + 1) ps done :=
  { h with
    few := Nat.le_succ_of_le h.few
    all := fun v hv hb => by
      by_cases e : v = k
      · subst e
        rcases hk with k1 | k1 | k1
        · have := (both_in hb).1; rw [k1] at this; cases this
        · exact h.done v k1
        · exfalso
          have h1 := (both_in hb).1
          have hN : v < N := by
            by_cases hl : v < ins.length
            · omega
            · unfold gb at h1
              rw [List.getD_eq_getElem?_getD, List.getElem?_eq_none (by omega)] at h1
              cases h1
          have : (v : Int) ∈ partL n ins N v := mem_part.2 ⟨v, hN, hb, rfl⟩
          rw [k1] at this
          cases this
      · exact h.all v (by omega) hb }
theorem lt_ins (hins : ins.length = N) {u : Nat} (h : gb ins u = true) : u < N := by
  by_cases hl : u < ins.length
  · omega
  · unfold gb at h
    rw [List.getD_eq_getElem?_getD, List.getElem?_eq_none (by omega)] at h
    cases h
/-- the part of k is taken in; done is marked with all of it -/
theorem PUp.take (h : PUp n ins N k ps done) (hins : ins.length = N) (hne : partL n ins N k ≠ []) {done' : List Bool} (hl : done'.length = N) (hd : ∀ u, gb done' u = true → gb done u = true ∨ (u : Int) ∈ partL n ins N k) : PUp n ins N (k + 1) (ps ++ [partL n ins N k]) done' where
  len := hl
  few := by rw [List.length_append, List.length_singleton]; have := h.few; omega
  sets := fun p hp => by
    rcases List.mem_append.1 hp with e | e
    · exact h.sets p e
    · rw [List.mem_singleton.1 e]; exact part_set
  parts := fun p hp => by
    rcases List.mem_append.1 hp with e | e
    · exact h.parts p e
    · rw [List.mem_singleton.1 e]
      obtain ⟨x, hx⟩ := List.exists_mem_of_ne_nil _ hne
      obtain ⟨u, _, hb, _⟩ := mem_part.1 hx
      refine ⟨k, hb.self, fun y => ⟨fun hy => ?_, fun ⟨u, e, hb⟩ => ?_⟩⟩
      · obtain ⟨u, _, hb, e⟩ := mem_part.1 hy
        exact ⟨u, e, hb⟩
      · exact mem_part.2 ⟨u, lt_ins hins (both_in hb).2, hb, e⟩
  all := fun v hv hb => by
    by_cases e : v = k
    · subst e
      exact ⟨_, by simp, mem_part.2 ⟨v, lt_ins hins (both_in hb).1, hb, rfl⟩⟩
    · obtain ⟨p, hp, hm⟩ := h.all v (by omega) hb
      exact ⟨p, List.mem_append.2 (.inl hp), hm⟩
  done := fun u hu => by
    rcases hd u hu with k1 | k1
    · obtain ⟨p, hp, hm⟩ := h.done u k1
      exact ⟨p, List.mem_append.2 (.inl hp), hm⟩
    · exact ⟨_, by simp, k1⟩
theorem PUp.fin (h : PUp n ins N k ps done) (hins : ins.length = N) (hk : N ≤ k) : isParts (RW n ins) ps := ⟨h.parts, fun v hb => h.all v (by have := lt_ins hins (both_in hb).1; omega) hb⟩
end
/-- the vertices that are not in a set -/
def insM (N : Nat) (g : List Int) : List Bool := (List.range N).map fun (v : Nat) => !hasL g (v : Int)
theorem insM_len (N : Nat) (g : List Int) : (insM N g).length = N := by simp [insM]
theorem insM_at {N : Nat} {g : List Int} {v : Nat} (h : v < N) : gb (insM N g) v = !hasL g (v : Int) := by
  unfold gb insM
  rw [List.getD_eq_getElem?_getD, List.getElem?_map, List.getElem?_range h]
  rfl
/-- on a loop that breaks one of the first k pairs -/
def BrkG (n : List (List Int)) (N : Nat) (ps : List PairD) (k : Nat) (v : Nat) : Prop := ∃ i, i < k ∧ ∃ u : Nat, Both (RW n (insM N (gp ps i).2)) v u ∧ (u : Int) ∈ (gp ps i).1
/-- v is, or has a way to, one of G -/
def Comes (n : List (List Int)) (G : Nat → Prop) (v : Nat) : Prop := G v ∨ ∃ u, Way (fun x y => (y : Int) ∈ gl n x) v u ∧ G u
noncomputable def brkL (n : List (List Int)) (N : Nat) (ps : List PairD) : List Int := pick (fun v => clB (Comes n (BrkG n N ps ps.length) v)) (fun v => (v : Int)) N
theorem list_brk {n : List (List Int)} {N : Nat} {G : Nat → Prop} {ms : List Bool} (hl : ms.length = N) (h : ∀ v, v < N → (gb ms v = true ↔ Comes n G v)) : listM ms = pick (fun v => clB (Comes n G v)) (fun v => (v : Int)) N := by
  refine rises_ext (listM_rises ms) (pick_rises fun i j h _ => by omega) (fun x => ?_)
  rw [mem_listM, mem_pick]
  constructor
  · rintro ⟨v, hv, hm, rfl⟩
    exact ⟨v, by omega, clB_iff.2 ((h v (by omega)).1 hm), rfl⟩
  · rintro ⟨v, hv, hm, rfl⟩
    exact ⟨v, by omega, (h v hv).2 (clB_iff.1 hm), rfl⟩
/-- a pair's marks: of the parts that meet Ask -/
theorem brk_pair {n : List (List Int)} {N : Nat} {g ask : List Int} {ps : List (List Int)} (hp : isParts (RW n (insM N g)) ps) (v : Nat) : (∃ p, p ∈ ps ∧ (v : Int) ∈ p ∧ ∃ x, x ∈ p ∧ x ∈ ask) ↔ ∃ u : Nat, Both (RW n (insM N g)) v u ∧ (u : Int) ∈ ask := by
  constructor
  · rintro ⟨p, hpm, hv, x, hx, ha⟩
    obtain ⟨c, hc, hall⟩ := hp.1 p hpm
    obtain ⟨a, e1, h1⟩ := (hall _).1 hv
    obtain ⟨b, rfl, h2⟩ := (hall _).1 hx
    obtain rfl : v = a := by omega
    exact ⟨b, h1.symm.trans h2, ha⟩
  · rintro ⟨u, hb, ha⟩
    obtain ⟨p, hpm, hv⟩ := hp.2 v hb.self
    obtain ⟨c, hc, hall⟩ := hp.1 p hpm
    obtain ⟨a, e1, h1⟩ := (hall _).1 hv
    obtain rfl : v = a := by omega
    exact ⟨p, hpm, hv, u, (hall _).2 ⟨u, rfl, h1.trans hb⟩, ha⟩
end Go.Proofs.YtjjaolndencplaaGreat
namespace Go.Proofs.YtjjaolndencplaaGreat
open Go.RowKit

set_option maxRecDepth 100000 in
set_option maxHeartbeats 3200000 in
theorem specAfter (A0 A1 C : Option Addr) (n0 c0 n1 c1 d N v : Nat) (n : List (List Int)) (ins : List Bool) (w : World) (B : Nat) (hB : B ≤ w.heap.size) (hx : RII w A1 n1 c1 n) (hi : RB w C N d ins) (hn1 : n1 = N) (hN : N ≤ 256) (hv : v < N) (hiv : gb ins v = true)
    (hE : ∀ x, x < N → (gl n x).length ≤ 16 ∧ ∀ j, j < (gl n x).length → ∃ m : Nat, gi (gl n x) j = (m : Int) ∧ m < N) :
    Calls Tryz.prog 81 #[.agg #[.slice A0 n0 c0, .slice A1 n1 c1], .slice C N d, .int .i64 (v : Int)] w fun e w' => ∃ (b : Nat) (out : List Bool), e = .returned (.slice (some ⟨b, 0, none⟩) N N) ∧ OB 4 w' B (.slice (some ⟨b, 0, none⟩) N N) out ∧ (out.length = N ∧ ∀ u, gb out u = true ↔ Way (RW n ins) v u) ∧ Below B w w' := by
  subst hn1
  have a1 := hx.cap; have a2 := hx.top; have i1 := hi.cap; have i2 := hi.top
  have bx := Box.new w 30 #[.slice A0 n0 c0, .slice A1 n1 c1]
  have hba : Below w.heap.size w (w.alloc (.cells #[.slice A0 n0 c0, .slice A1 n1 c1] 30)) := below_alloc (Nat.le_refl _) (Below.refl _ _)
  have HZ : Hid ((w.alloc (.cells #[.slice A0 n0 c0, .slice A1 n1 c1] 30)).heap.size = w.heap.size + 1) := Lib.hid (by simp)
  have H0 := Lib.hid (AO.start (n := n) (ins := ins) hv hiv)
  have HE := Lib.hid hE
  clear hE hiv
  go_enter Tryz.func81, Tryz.ntmps81
  go_wp2_with (refine wpList_makeB rfl (.tmp 13) rfl _ n1 rfl (by omega) ?_; intro w1 hown hb1; rw [HZ.out] at hown ⊢; have bx1 := bx.below hb1 bx.lt; replace hb1 := below_then hb1 hba.size hba; replace hown := hown.more (lo' := w.heap.size) (by omega); clear hba bx)
  have hs1 := hb1.size
  have hlt1 := (hown.lt _ rfl).2
  have hown2 : OB 4 (w1.alloc (.cells #[.int .i64 (v : Int)] 2)) w.heap.size (.slice (some ⟨w.heap.size + 1, 0, none⟩) n1 n1) (List.replicate n1 false) := hown.below (below_alloc (Nat.le_refl _) (Below.refl _ _))
  have ho2 : OQ (w1.alloc (.cells #[.int .i64 (v : Int)] 2)) w1.heap.size (.slice (some ⟨w1.heap.size, 0, none⟩) 1 1) [(v : Int)] := OQ.of (OI.lit1 (Nat.le_refl _))
  have bx2 := bx1.alloc (.cells #[.int .i64 (v : Int)] 2)
  have hw2 : Below w.heap.size w (w1.alloc (.cells #[.int .i64 (v : Int)] 2)) := below_alloc (Nat.le_refl _) hb1
  clear hown hb1 bx1
  go_wp2
  go_loopw [8] (fun t wr => ∃ (T : List Int) (out : List Bool), OQ wr w1.heap.size t T ∧ OB 4 wr w.heap.size (.slice (some ⟨w.heap.size + 1, 0, none⟩) n1 n1) out ∧ Hid (AO n ins n1 v out T) ∧ Box wr w.heap.size 30 #[.slice A0 n0 c0, .slice A1 n1 c1] ∧ Below w.heap.size w wr ∧ w1.heap.size ≤ wr.heap.size) (fun t wr => 2 * mB wr (w.heap.size + 1) + (match t with | .slice _ n _ => n | _ => 0))
  case atStart => exact ⟨_, _, ho2, hown2, H0, bx2, hw2, by simp⟩
  case round =>
    clear ho2 hown2 bx2 hw2
    obtain ⟨T, out, ho, hb, HI, bX, hbr, hsz⟩ := hrel
    have hM := Lib.hid (mB_row hb)
    cases T with
    | nil =>
      obtain ⟨At, ct, rfl, h1, h2⟩ := ho.form
      have hfin := Lib.hid (HI.out.fin)
      go_wp2
      go_ret
      exact ⟨_, out, rfl, hb.more hB, ⟨HI.out.len, hfin.out⟩, hbr.mono hB⟩
    | cons x0 r =>
      obtain ⟨x, rfl, hxn, hxi⟩ := HI.out.rng x0 List.mem_cons_self
      obtain ⟨g, off, c, rfl, hc1, hc2, hcell, hq0, hq1⟩ := ho.pop
      have HP := Lib.hid HI.out.pop
      have HXI := Lib.hid hxi
      obtain ⟨be, oe, A', n', c', hA', hce, hre⟩ := hx.at_ hxn
      subst hA'
      have ra1 := hre.cap; have ra2 := hre.top
      have HR := Lib.hid hre.len
      have HB := Lib.hid (HE.out x hxn)
      have hce0 := keeps_below hbr _ _ hce
      have q1 : wr.cell? ⟨w.heap.size, 1, none⟩ = some (.slice (some ⟨be, oe, none⟩) n1 c1) := bX.cell 1
      have q0 : wr.cell? ⟨w.heap.size, 0, none⟩ = some (.slice A0 n0 c0) := bX.cell 0
      clear hxi
      go_upto_region 6 with (fail)
      go_cut [8, 9, 10] (fun u8 u9 u10 wx => Hid (OQ wr w1.heap.size u8 r ∧ u9 = .int .i64 (x : Int) ∧ u10 = .int .i64 0 ∧ wx = wr))
      case first =>
        by_cases hc : c = 0
        · subst hc
          have hr0 : r = [] := List.eq_nil_of_length_eq_zero (by omega)
          subst hr0
          have hq := hq0 rfl
          go_wp2_with fail; go_meet
          exact Lib.hid ⟨hq, rfl, rfl, rfl⟩
        · have hq := hq1 hc
          have hc' : ¬ c + 1 = 1 := by omega
          go_wp2_with fail; go_meet
          exact Lib.hid ⟨hq, rfl, rfl, rfl⟩
      case rest =>
        obtain ⟨hq, hu9, hu10, hwx⟩ := hcut.out
        rw [hu9, hu10, hwx]
        clear hcut hu9 hu10 hwx
        obtain ⟨A8, c8, rfl, hA8, hA9⟩ := hq.form
        clear hq0 hq1 ho
        go_wp2
        go_loopw [8, 10] (fun t i wi => ∃ (T1 : List Int) (out1 : List Bool) (j : Nat), j ≤ n' ∧ i = .int .i64 (j : Int) ∧ OQ wi w1.heap.size t T1 ∧ OB 4 wi w.heap.size (.slice (some ⟨w.heap.size + 1, 0, none⟩) n1 n1) out1 ∧ Hid (AI2 n ins n1 v x j out1 T1 ∧ 2 * cntF out1 + T1.length ≤ 2 * cntF out + r.length) ∧ Box wi w.heap.size 30 #[.slice A0 n0 c0, .slice (some ⟨be, oe, none⟩) n1 c1] ∧ Below w.heap.size w wi ∧ w1.heap.size ≤ wi.heap.size) (fun _ i _ => n' - (intOf i).toNat)
        case atStart => exact ⟨_, out, 0, Nat.zero_le _, rfl, hq, hb, Lib.hid ⟨HP.out, Nat.le_refl _⟩, bX, hbr, hsz⟩
        case round =>
          clear hq hb hcell bX q0 q1 hce0
          obtain ⟨T1, out1, j, hj, rfl, ho1, hb1, HI1, bX1, hbi, hsi⟩ := hrel
          obtain ⟨A1', c1', rfl, hA1, hA2⟩ := ho1.form
          have hM1 := Lib.hid (mB_row hb1)
          have hce1 := keeps_below hbi _ _ hce
          have q1 : wr.cell? ⟨w.heap.size, 1, none⟩ = some (.slice (some ⟨be, oe, none⟩) n1 c1) := bX1.cell 1
          have q0 : wr.cell? ⟨w.heap.size, 0, none⟩ = some (.slice A0 n0 c0) := bX1.cell 0
          by_cases hlt : j < n'
          · obtain ⟨bj, oj, hA2', hcj⟩ := (hre.keep (keeps_below hbi)).at_ hlt
            subst hA2'
            obtain ⟨u, hu, hun⟩ := HB.out.2 j (by rw [HR.out]; exact hlt)
            have HU := Lib.hid hu
            have HJ : Hid (j < (gl n x).length) := Lib.hid (by rw [HR.out]; exact hlt)
            rw [hu] at hcj
            obtain ⟨bi, oi, hC, hci⟩ := (hi.keep (keeps_below hbi)).at_ hun
            subst hC
            have HLn := Lib.hid HI1.out.1.len
            have hcu := hb1.at_ (i := u) (by rw [HLn.out]; exact hun)
            have hfz := hb1.hot (i := u) (by rw [HLn.out])
            have hll : T1.length ≤ 4194304 := by have h9 := HI1.out.1.cnt; omega
            clear hu
            cases hin : gb ins u with
            | false =>
              have HIN := Lib.hid hin
              rw [hin] at hci
              clear hin
              go_wp2
              go_roundw
              case rel => exact ⟨T1, out1, j + 1, by omega, by go_num, ho1, hb1, Lib.hid ⟨HI1.out.1.skip HJ.out HU.out (fun h => by rw [HIN.out] at h; cases h), HI1.out.2⟩, bX1, hbi, hsi⟩
              case measure => simp [intOf]; omega
            | true =>
              have HIN := Lib.hid hin
              rw [hin] at hci
              clear hin
              cases hou : gb out1 u with
              | true =>
                have HOU := Lib.hid hou
                rw [hou] at hcu
                clear hou
                go_wp2
                go_roundw
                case rel => exact ⟨T1, out1, j + 1, by omega, by go_num, ho1, hb1, Lib.hid ⟨HI1.out.1.skip HJ.out HU.out (fun _ => HOU.out), HI1.out.2⟩, bX1, hbi, hsi⟩
                case measure => simp [intOf]; omega
              | false =>
                have HOU := Lib.hid hou
                rw [hou] at hcu
                clear hou
                have hoT := ho1.far (p := ⟨w.heap.size + 1, u, none⟩) (by show w.heap.size + 1 < w1.heap.size; exact hlt1) (.bool true)
                have hbS := hb1.set_ (i := u) (by rw [HLn.out]) true
                have bXS := bX1.far (p := ⟨w.heap.size + 1, u, none⟩) (show w.heap.size ≠ w.heap.size + 1 by omega) (.bool true)
                have hwS := below_set (p := ⟨w.heap.size + 1, u, none⟩) (u := .bool true) (by show w.heap.size ≤ w.heap.size + 1; omega) hbi
                have HPt := Lib.hid (HI1.out.1.put HJ.out HU.out hun HXI.out HIN.out HOU.out)
                have HC := Lib.hid (cntF_set (ms := out1) (i := u) (by rw [HLn.out]; exact hun) HOU.out)
                go_wp2_with (at_builtin; refine wpList_pushQ rfl (.tmp 57) (.tmp 59) rfl (wr.setCell ⟨w.heap.size + 1, u, none⟩ (.bool true)) wr.heap.size (by simp) w1.heap.size (.slice A1' T1.length c1') T1 rfl hoT (u : Int) rfl hll hsi ?_; intro t2 w3 ho3 hb3)
                have hcg : Chg (fun z => w1.heap.size ≤ z) (wr.setCell ⟨w.heap.size + 1, u, none⟩ (.bool true)) w3 := ⟨hb3.os, hb3.tape, hb3.output, hb3.size, fun k _ hk => hb3.block k (by omega)⟩
                have hbE := row_chg hbS hcg (fun z hz e => by have h3 : w.heap.size + 1 = z := by simpa [Value.ownBlock] using hz
                                                              omega)
                have bXE : Box w3 w.heap.size 30 #[.slice A0 n0 c0, .slice (some ⟨be, oe, none⟩) n1 c1] := (hb3.block _ (by omega)).trans bXS
                have hsE : w1.heap.size ≤ w3.heap.size := Nat.le_trans hsi (Nat.le_trans (by simp) hb3.size)
                have hwE := hwS.trans (hb3.mono (by omega))
                go_roundw
                case rel => exact ⟨T1 ++ [(u : Int)], out1.set u true, j + 1, by omega, by go_num, ho3, hbE, Lib.hid ⟨HPt.out, by have h8 := HI1.out.2; have h9 := HC.out; rw [List.length_append, List.length_singleton]; omega⟩, bXE, hwE, hsE⟩
                case measure => simp [intOf]; omega
          · obtain rfl : j = n' := by omega
            go_wp2
            refine ⟨⟨T1, out1, ho1, hb1, Lib.hid (HI1.out.1.fin (by rw [HR.out]; exact Nat.le_refl _)), bX1, hbi, hsi⟩, ?_⟩
            have h8 := HI1.out.2
            have h9 := hM1.out
            have h10 := hM.out
            rw [h9, h10]
            show 2 * cntF out1 + T1.length < 2 * cntF out + (r.length + 1)
            omega
end Go.Proofs.YtjjaolndencplaaGreat
namespace Go.Proofs.YtjjaolndencplaaGreat
open Go.RowKit

/-- a row's block is no box of another type -/
theorem row_nbox {E t : TypeId} {w : World} {lo size n b : Nat} {v : Value} {cs : List Value} {xs : Array Value} (h : w.ownsRow lo E size v n cs) (hb : Box w b t xs) (hne : E ≠ t) : v.ownBlock ≠ some b := by
  intro hv
  rcases h.2 with ⟨rfl, _⟩ | ⟨g, cap, cur, rfl, _, h3, _⟩
  · simp [Value.ownBlock] at hv
  · simp [Value.ownBlock] at hv
    subst hv
    unfold Box at hb
    rw [hb] at h3
    injection h3 with h3
    injection h3 with _ e
    exact hne e.symm
noncomputable def partU (n : List (List Int)) (ins : List Bool) (v k : Nat) : List Int := pick (fun u => clB (Both (RW n ins) v u)) (fun u => (u : Int)) k
set_option maxRecDepth 100000 in
set_option maxHeartbeats 3200000 in
theorem specPart (A0 A1 C : Option Addr) (n0 c0 n1 c1 d N v : Nat) (n : List (List Int)) (ins : List Bool) (w : World) (B : Nat) (hB : B ≤ w.heap.size) (hx : RII w A1 n1 c1 n) (hi : RB w C N d ins) (hn1 : n1 = N) (hN : N ≤ 256) (hv : v < N) (hiv : gb ins v = true)
    (hE : ∀ x, x < N → (gl n x).length ≤ 16 ∧ ∀ j, j < (gl n x).length → ∃ m : Nat, gi (gl n x) j = (m : Int) ∧ m < N) :
    Calls Tryz.prog 74 #[.agg #[.slice A0 n0 c0, .slice A1 n1 c1], .slice C N d, .int .i64 (v : Int)] w fun e w' => ∃ vv, e = .returned vv ∧ OI 2 w' B vv (partL n ins N v) ∧ Below B w w' := by
  have hi2 := hi.cap; have hi3 := hi.top
  have bx := Box.new w 30 #[.slice A0 n0 c0, .slice A1 n1 c1]
  have hba : Below w.heap.size w (w.alloc (.cells #[.slice A0 n0 c0, .slice A1 n1 c1] 30)) := below_alloc (Nat.le_refl _) (Below.refl _ _)
  have HE := Lib.hid hE
  have HIV := Lib.hid hiv
  have HN1 := Lib.hid hn1
  clear hE hiv hn1
  have hem : OI 2 ((w.alloc (.cells #[.slice A0 n0 c0, .slice A1 n1 c1] 30)).alloc (.cells #[] 2)) w.heap.size (.slice (some ⟨w.heap.size + 1, 0, none⟩) 0 0) [] := by
    have h := OI.empty (E := 2) (w := w.alloc (.cells #[.slice A0 n0 c0, .slice A1 n1 c1] 30)) (B := w.heap.size) (by simp)
    simpa using h
  have bxe := bx.alloc (.cells #[] 2)
  have hwE : Below w.heap.size w ((w.alloc (.cells #[.slice A0 n0 c0, .slice A1 n1 c1] 30)).alloc (.cells #[] 2)) := below_alloc (Nat.le_refl _) hba
  have q0 := bxe.d0; have q1 := bxe.d1
  clear bx hba
  go_enter Tryz.func74, Tryz.ntmps74
  go_wp2_with fail
  refine (specAfter _ _ _ _ _ _ _ _ _ _ n ins _ _ (Nat.le_refl _) (hx.keep (keeps_below hwE)) (hi.keep (keeps_below hwE)) HN1.out hN hv HIV.out HE.out).mono ?_; rintro e w1 ⟨b, out, rfl, hob, hout, hb1⟩
  have bx1 := bxe.below hb1 bxe.lt
  have hw1 := below_then hb1 hwE.size hwE
  have ho1 := hem.below hb1
  have hob1 := hob.more (lo' := w.heap.size) hwE.size
  have HO := Lib.hid hout
  have hcv := hob1.at_ (i := v) (by rw [HO.out.1]; exact hv)
  clear q0 q1 hb1 hob hout hem bxe
  cases hvv : gb out v with
  | false =>
    rw [hvv] at hcv
    have E : Hid (partL n ins N v = []) := Lib.hid (part_none (fun h => by rw [(HO.out.2 v).2 h] at hvv; cases hvv))
    clear hvv
    go_wp2
    go_ret
    exact ⟨_, rfl, by rw [E.out]; exact ho1.more hB, hw1.mono hB⟩
  | true =>
    rw [hvv] at hcv
    clear hvv
    go_wp2
    go_loopw [7, 9] (fun t i wr => ∃ k : Nat, k ≤ N ∧ i = .int .i64 (k : Int) ∧ OI 2 wr w.heap.size t (partU n ins v k) ∧ OB 4 wr w.heap.size (.slice (some ⟨b, 0, none⟩) N N) out ∧ Box wr w.heap.size 30 #[.slice A0 n0 c0, .slice A1 n1 c1] ∧ Below w.heap.size w wr) (fun _ i _ => N - (intOf i).toNat)
    case atStart => exact ⟨0, Nat.zero_le _, rfl, ho1, hob1, bx1, hw1⟩
    case round =>
      clear ho1 hob1 bx1 hw1 hcv
      obtain ⟨k, hk, rfl, ho, hob, bX, hbr⟩ := hrel
      obtain ⟨At, ct, rfl⟩ := ho.form
      have q0 := bX.d0; have q1 := bX.d1
      have hll : (partU n ins v k).length ≤ 4194304 := by have : (partU n ins v k).length ≤ k := pick_len _ _ _; omega
      by_cases hlt : k < N
      · have hck := hob.at_ (i := k) (by rw [HO.out.1]; exact hlt)
        have hcv := hob.at_ (i := v) (by rw [HO.out.1]; exact hv)
        cases hkk : gb out k with
        | false =>
          rw [hkk] at hck
          have HU : Hid (partU n ins v (k + 1) = partU n ins v k) := Lib.hid (by unfold partU; exact pick_no (clB_no fun h => by rw [(HO.out.2 k).2 h.1] at hkk; cases hkk))
          clear hkk
          go_wp2
          go_roundw
          case rel => exact ⟨k + 1, by omega, by go_num, by rw [HU.out]; exact ho, hob, bX, hbr⟩
          case measure => simp [intOf]; omega
        | true =>
          rw [hkk] at hck
          have HW := Lib.hid ((HO.out.2 k).1 hkk)
          have HIK : Hid (gb ins k = true) := Lib.hid (by obtain ⟨y, hy⟩ := HW.out.last; exact hy.2.1)
          clear hkk
          go_wp2_with fail
          refine (specAfter _ _ _ _ _ _ _ _ _ _ n ins _ _ (Nat.le_refl _) (hx.keep (keeps_below hbr)) (hi.keep (keeps_below hbr)) HN1.out hN hlt HIK.out HE.out).mono ?_; rintro e w2 ⟨b2, out2, rfl, hob2, hout2, hb2⟩
          have bX2 := bX.below hb2 bX.lt
          have hw2 := below_then hb2 hbr.size hbr
          have ho2 := ho.below hb2
          have hobk := hob.below hb2
          have hsz2 := hw2.size
          have hc2 := hob2.at_ (i := v) (by rw [hout2.1]; exact hv)
          have HO2 := Lib.hid hout2
          clear q0 q1 hb2 hck hcv hout2
          cases hvk : gb out2 v with
          | false =>
            rw [hvk] at hc2
            have HU : Hid (partU n ins v (k + 1) = partU n ins v k) := Lib.hid (by unfold partU; exact pick_no (clB_no fun h => by rw [(HO2.out.2 v).2 h.2] at hvk; cases hvk))
            clear hvk
            go_wp2
            go_roundw
            case rel => exact ⟨k + 1, by omega, by go_num, by rw [HU.out]; exact ho2, hobk, bX2, hw2⟩
            case measure => simp [intOf]; omega
          | true =>
            rw [hvk] at hc2
            have HU : Hid (partU n ins v (k + 1) = partU n ins v k ++ [(k : Int)]) := Lib.hid (by unfold partU; exact pick_yes (clB_yes ⟨HW.out, (HO2.out.2 v).1 hvk⟩))
            clear hvk
            go_wp2_with (at_builtin; refine wpList_pushI rfl (.tmp 40) (.tmp 42) rfl w2 w.heap.size (.slice At (partU n ins v k).length ct) (partU n ins v k) rfl ho2 (k : Int) rfl hll hsz2 ?_; intro v3 w3 ho3 hb3 hc3 hat3)
            have hob3 := row_chg hobk hc3 (fun z hz e => own_ne ho2 hobk (by decide) z e hz)
            have bX3 : Box w3 w.heap.size 30 #[.slice A0 n0 c0, .slice A1 n1 c1] := (hc3.block _ bX2.lt (fun e => row_nbox ho2 bX2 (by decide) e)).trans bX2
            go_roundw
            case rel => exact ⟨k + 1, by omega, by go_num, by rw [HU.out]; exact ho3, hob3, bX3, hw2.trans hb3⟩
            case measure => simp [intOf]; omega
      · obtain rfl : k = N := by omega
        go_wp2
        go_ret
        exact ⟨_, rfl, ho.more hB, hbr.mono hB⟩
set_option maxRecDepth 100000 in
set_option maxHeartbeats 1600000 in
theorem specInside (C : Option Addr) (N m d : Nat) (g : List Int) (w : World) (B : Nat) (hB : B ≤ w.heap.size) (hg : RI w C m d g) (hN : N ≤ 256) :
    Calls Tryz.prog 43 #[.int .i64 (N : Int), .slice C m d] w fun e w' => ∃ b, e = .returned (.slice (some ⟨b, 0, none⟩) N N) ∧ OB 4 w' B (.slice (some ⟨b, 0, none⟩) N N) (insM N g) ∧ Below B w w' := by
  have hba := Below.refl w.heap.size w
  have hsz : w.heap.size = w.heap.size := rfl
  have HZ := Lib.hid hsz; clear hsz
  go_enter Tryz.func43, Tryz.ntmps43
  go_wp2_with (refine wpList_makeB rfl (.tmp 7) rfl _ N rfl (by omega) ?_; intro w1 hown hb1; rw [HZ.out] at hown ⊢; replace hb1 := below_then hb1 hba.size hba; replace hown := hown.more (lo' := w.heap.size) (by omega); clear hba)
  go_loopw [6] (fun i wr => ∃ (k : Nat) (ls : List Bool), k ≤ N ∧ i = .int .i64 (k : Int) ∧ OB 4 wr w.heap.size (.slice (some ⟨w.heap.size, 0, none⟩) N N) ls ∧ Hid (ls.length = N ∧ ∀ u, u < k → gb ls u = !hasL g (u : Int)) ∧ Below w.heap.size w wr) (fun i _ => N - (intOf i).toNat)
  case atStart => exact ⟨0, _, Nat.zero_le _, rfl, hown, Lib.hid ⟨by simp, fun u hu => absurd hu (by omega)⟩, hb1⟩
  case round =>
    clear hown hb1
    obtain ⟨k, ls, hk, rfl, ho, HI, hbr⟩ := hrel
    by_cases hlt : k < N
    · have hc := ho.at_ (i := k) (by rw [HI.out.1]; exact hlt)
      have hf := ho.hot (i := k) (by rw [HI.out.1])
      go_wp2_with (go_at_call 60; refine (l16Has _ _ _ _ _ _ (hg.keep (keeps_below hbr))).mono ?_; rintro e w2 ⟨rfl, q2, rfl⟩)
      go_roundw
      case rel =>
        refine ⟨k + 1, ls.set k (!hasL g (k : Int)), by omega, by go_num, by first | exact (OB.drewN ho q2).set_ (by rw [HI.out.1]) _ | exact ho.set_ (by rw [HI.out.1]) _, Lib.hid ⟨by rw [List.length_set]; exact HI.out.1, fun u hu => ?_⟩, below_set (p := ⟨w.heap.size, k, none⟩) (Nat.le_refl _) (below_drewN hbr q2)⟩
        by_cases e : k = u
        · subst e
          unfold gb
          rw [List.getD_eq_getElem?_getD, List.getElem?_set_self (by rw [HI.out.1]; exact hlt)]
          rfl
        · have h9 := HI.out.2 u (by omega)
          unfold gb at h9 ⊢
          rw [List.getD_eq_getElem?_getD, List.getElem?_set_ne e, ← List.getD_eq_getElem?_getD]
          exact h9
      case measure => simp [intOf]; omega
    · obtain rfl : k = N := by omega
      have E : Hid (ls = insM k g) := Lib.hid (gb_ext (by rw [HI.out.1, insM_len]) fun j hj => by rw [HI.out.2 j (by have := HI.out.1; omega), insM_at (by have := HI.out.1; omega)])
      go_wp2
      go_ret
      exact ⟨_, rfl, by rw [← E.out]; exact ho.more hB, hbr.mono hB⟩
end Go.Proofs.YtjjaolndencplaaGreat
namespace Go.Proofs.YtjjaolndencplaaGreat
open Go.RowKit

/-- a row of rows of the call's own; each of its rows is read in w0, or is of the call's own -/
def OLR (w0 w : World) (lo : Nat) (v : Value) (E : List (List Int)) : Prop := ∃ cs, w.ownsRow lo 27 1 v E.length cs ∧ ∀ j, j < E.length → RIv w0 (gv cs j) (gl E j) ∨ OI 2 w lo (gv cs j) (gl E j)
section
variable {w0 w w' : World} {lo : Nat} {v : Value} {E : List (List Int)}
theorem OLR.below (h : OLR w0 w lo v E) (hb : Below w.heap.size w w') : OLR w0 w' lo v E := by
  obtain ⟨cs, h1, h2⟩ := h
  exact ⟨cs, row_below h1 hb, fun j hj => (h2 j hj).imp id (fun k => k.below hb)⟩
theorem OLR.form (h : OLR w0 w lo v E) : ∃ A c, v = .slice A E.length c := by
  obtain ⟨cs, ⟨_, h⟩, _⟩ := h
  rcases h with ⟨rfl, hn⟩ | ⟨g, cap, cur, rfl, _⟩
  · exact ⟨none, 0, by rw [hn]⟩
  · exact ⟨_, _, rfl⟩
theorem OLR.empty (hl : lo ≤ w.heap.size) : OLR w0 (w.alloc (.cells #[] 27)) lo (.slice (some ⟨w.heap.size, 0, none⟩) 0 0) [] := ⟨[], World.ownsRow_lit w #[] 0 hl (by decide) rfl, fun j hj => by simp at hj⟩
theorem OLR.reads {A : Option Addr} {n c : Nat} (h : OLR w0 w lo (.slice A n c) E) (hk : Keeps w0 w) : RII w A n c E := by
  obtain ⟨cs, h1, h2⟩ := h
  have hl : cs.length = E.length := by have := row_len h1; omega
  rcases h1.2 with ⟨e, hn⟩ | ⟨g, cap, cur, e, hb, hg, hnc, hm, hs, ht⟩
  · injection e with e1 e2 e3
    subst e1; subst e2; subst e3
    exact ⟨by omega, ⟨Nat.le_refl _, by omega⟩, fun i hi => absurd hi (by omega)⟩
  · injection e with e1 e2 e3
    subst e1; subst e2; subst e3
    refine ⟨rfl, ⟨hnc, by unfold maxLen at hm; omega⟩, fun i hi => ?_⟩
    have hc := row_cell h1 (j := i) (by omega)
    rcases h2 i hi with k | k
    · obtain ⟨A', n', c', e', hr⟩ := k
      rw [e'] at hc
      exact ⟨g, 0, A', n', c', rfl, by rw [Nat.zero_add]; exact hc, hr.keep hk⟩
    · obtain ⟨A', c', e'⟩ := k.form
      rw [e'] at hc k
      exact ⟨g, 0, A', _, c', rfl, by rw [Nat.zero_add]; exact hc, k.reads⟩
end
end Go.Proofs.YtjjaolndencplaaGreat
