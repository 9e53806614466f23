/- Texts that the proof reaches: Lib, Grid, Par, ParMark, Push, App, Fn6, Dice, Arena, Vertex, Use, Fn2, Fn3, Fn4, ArenaL, Search, Pick, Less, Marks, Copy, Great, Plan, Stay, Acc. -/
import Derived.WalkKit
import Derived.Deep.QuietTactic
import Derived.BigQuiet
import Derived.Lib.Hide
import Derived.Deep.Draws
import Derived.Test.YtjjaolndencplaaGreatRows
import Derived.Deep.AppendLies
import Derived.Laws.AppendOwnNone
import Derived.IntWalk
import Derived.StillTailTactics
import Derived.Deep.RegionLaw
import Derived.Deep.RegionHeld3
import Derived.Deep.DeepMust
import Derived.Deep.OwnRows
import Derived.Lib.SlicesSearch
import Derived.OwnWalk
import Derived.Deep.LoopGhost
namespace Go.Proofs.YtjjaolndencplaaGreat
open Go.RowKit

/-! ### lists -/
def gi (xs : List Int) (i : Nat) : Int := xs.getD i 0
def gb (xs : List Bool) (i : Nat) : Bool := xs.getD i false
theorem gi_get {xs : List Int} {i : Nat} (h : i < xs.length) : gi xs i = xs[i] := by simp [gi, h]
theorem gb_get {xs : List Bool} {i : Nat} (h : i < xs.length) : gb xs i = xs[i] := by simp [gb, h]
theorem gi_some {xs : List Int} {i : Nat} (h : i < xs.length) : xs[i]? = some (gi xs i) := by simp [gi, h]
theorem gi_mem {xs : List Int} {i : Nat} (h : i < xs.length) : gi xs i ∈ xs := by rw [gi_get h]; exact List.getElem_mem h
theorem mem_gi {xs : List Int} {x : Int} (h : x ∈ xs) : ∃ i, i < xs.length ∧ gi xs i = x := by
  obtain ⟨i, hi, rfl⟩ := List.getElem_of_mem h
  exact ⟨i, hi, gi_get hi⟩
theorem gi_take {xs : List Int} {n i : Nat} (h : i < n) : gi (xs.take n) i = gi xs i := by simp [gi, h]
theorem gi_drop {xs : List Int} {n i : Nat} : gi (xs.drop n) i = gi xs (n + i) := by simp [gi]
theorem gi_ext {xs ys : List Int} (hl : xs.length = ys.length) (h : ∀ j, j < xs.length → gi xs j = gi ys j) : xs = ys := by
  refine List.ext_getElem hl fun i a b => ?_
  have := h i a
  rwa [gi_get a, gi_get b] at this
theorem take_gi {xs : List Int} {k : Nat} (h : k < xs.length) : xs.take (k + 1) = xs.take k ++ [gi xs k] := by
  rw [gi_get h, List.take_succ_eq_append_getElem h]
theorem all_succ {p : Nat → Prop} {k : Nat} (h : ∀ j, j < k → p j) (h1 : p k) : ∀ j, j < k + 1 → p j := fun j hj => by
  rcases Nat.lt_or_ge j k with h' | h'
  · exact h j h'
  · obtain rfl : j = k := by omega
    exact h1
theorem ret_b {a b : Bool} (h : a = b) : Ending.returned (.bool a) = .returned (.bool b) := by rw [h]
theorem ret_i {k : IntKind} {a b : Int} (h : a = b) : Ending.returned (.int k a) = .returned (.int k b) := by rw [h]
/-! ### worlds -/
/-- nothing has turned but the count of draws -/
def Qt (w w' : World) : Prop := ∃ q, w' = w.drewN q
theorem Qt.refl (w : World) : Qt w w := ⟨0, rfl⟩
theorem Qt.drewN {w : World} (q : Nat) : Qt w (w.drewN q) := ⟨q, rfl⟩
theorem Qt.drew2 {w : World} (q p : Nat) : Qt w ((w.drewN q).drewN p) := ⟨q + p, by rw [World.drewN_drewN]⟩
theorem Qt.trans {a b c : World} (h : Qt a b) (k : Qt b c) : Qt a c := by
  obtain ⟨q, rfl⟩ := h; obtain ⟨p, rfl⟩ := k
  exact Qt.drew2 q p
theorem below_drewN {B : Nat} {a w : World} (h : Below B a w) (n : Nat) : Below B a (w.drewN n) := ⟨h.os, h.tape, h.output, h.size, h.block⟩
theorem Qt.below {w w' : World} (B : Nat) (h : Qt w w') : Below B w w' := by
  obtain ⟨q, rfl⟩ := h
  exact below_drewN (Below.refl _ _) q

theorem below_alloc {B : Nat} {a w : World} {o : Obj} (hB : B ≤ a.heap.size) (h : Below B a w) : Below B a (w.alloc o) := h.alloc (Nat.le_trans hB h.size) o
theorem below_set {B : Nat} {a w : World} {p : Addr} {u : Value} (hp : B ≤ p.block) (h : Below B a w) : Below B a (w.setCell p u) := h.setCell hp u
theorem below_then {B B' : Nat} {a b c : World} (k : Below B' b c) (hB : B ≤ B') (h : Below B a b) : Below B a c := h.trans (k.mono hB)
theorem below_qt {B : Nat} {a b c : World} (k : Qt b c) (h : Below B a b) : Below B a c := h.trans (k.below B)
theorem below_undrew {w w' : World} (h : Below w.drew.heap.size w.drew w') : Below w.heap.size w w' := ⟨h.os, h.tape, h.output, h.size, h.block⟩
/-- every cell of w is a cell of w', unchanged -/
def Keeps (w w' : World) : Prop := ∀ p v, w.cell? p = some v → w'.cell? p = some v
theorem Keeps.refl (w : World) : Keeps w w := fun _ _ h => h
theorem Keeps.trans {a b c : World} (h : Keeps a b) (k : Keeps b c) : Keeps a c := fun p v hv => k p v (h p v hv)
theorem keeps_below {w w' : World} (h : Below w.heap.size w w') : Keeps w w' := fun p _ hv =>
  (h.cell (World.block_lt_of_cell? w p hv)).trans hv
theorem keeps_alloc (w : World) (o : Obj) : Keeps w (w.alloc o) := keeps_below ((Below.refl _ _).alloc (Nat.le_refl _) o)
theorem Qt.keeps {w w' : World} (h : Qt w w') : Keeps w w' := by
  obtain ⟨q, rfl⟩ := h
  exact fun _ _ h => h

/-! ### a call that leaves the world alone but for draws, inside a region that draws -/
theorem quiet1 {P : Program} {f : FuncId} {args : Array Value} {w : World} {a n : Nat} {v : Value}
    (h : Calls P f args (w.drewN (a + n)) fun e w' => e = .returned v ∧ Qt (w.drewN (a + n)) w') : Calls P f args (w.drewN (a + n)) fun e w'' => e = .returned v ∧ ∃ m, w'' = w.drewN (a + m) :=
  h.mono fun _ _ ⟨he, m, hm⟩ => ⟨he, n + m, by rw [hm, World.drewN_drewN, Nat.add_assoc]⟩

/-! ### slices of int64, of bool, that read as lists -/
def RI (w : World) (A : Option Addr) (n c : Nat) (xs : List Int) : Prop :=
  xs.length = n ∧ (n ≤ c ∧ c ≤ 9223372036854775807) ∧ ∀ i, i < n → ∃ b off, A = some ⟨b, off, none⟩ ∧ w.cell? ⟨b, off + i, none⟩ = some (.int .i64 (gi xs i))
section
variable {w w' : World} {A : Option Addr} {n c : Nat} {xs : List Int}
theorem RI.len (h : RI w A n c xs) : xs.length = n := h.1
theorem RI.cap (h : RI w A n c xs) : n ≤ c := h.2.1.1
theorem RI.top (h : RI w A n c xs) : c ≤ 9223372036854775807 := h.2.1.2
theorem RI.at_ (h : RI w A n c xs) {i : Nat} (hi : i < n) : ∃ b off, A = some ⟨b, off, none⟩ ∧ w.cell? ⟨b, off + i, none⟩ = some (.int .i64 (gi xs i)) := h.2.2 i hi
theorem RI.keep (h : RI w A n c xs) (k : Keeps w w') : RI w' A n c xs :=
  ⟨h.1, h.2.1, fun i hi => by obtain ⟨b, off, e, hc⟩ := h.2.2 i hi; exact ⟨b, off, e, k _ _ hc⟩⟩
theorem RI.take (h : RI w A n c xs) {k : Nat} (hk : k ≤ n) : RI w A k c (xs.take k) :=
  ⟨by rw [List.length_take, h.1]; omega, ⟨by have := h.cap; omega, h.top⟩, fun i hi => by obtain ⟨b, off, e, hc⟩ := h.2.2 i (by omega); exact ⟨b, off, e, by rw [gi_take hi]; exact hc⟩⟩
end

theorem add_at (b off n : Nat) : (⟨b, off, none⟩ : Addr).add n = ⟨b, off + n, none⟩ := by unfold Addr.add; split <;> simp_all
theorem RI.of_cells {w : World} {x : Addr} {len cap : Nat} {zs : List Int} (hl : len ≤ cap) (hm : cap ≤ maxLen) (hz : zs.length = cap)
    (hcell : ∀ i, i < zs.length → w.cell? (x.add i) = some (.int .i64 (zs.getD i 0))) : RI w (some x) len cap (zs.take len) := by
  refine ⟨by rw [List.length_take]; omega, ⟨hl, by unfold maxLen at hm; omega⟩, fun i hi => ?_⟩
  obtain ⟨b, off, spot⟩ := x
  have h0 := hcell 0 (by omega)
  have hs : spot = none := by simpa [Addr.add] using World.cell?_spot h0
  subst hs
  refine ⟨b, off, rfl, ?_⟩
  have hc := hcell i (by omega)
  rw [gi_take hi]
  rw [show (⟨b, off, none⟩ : Addr).add i = ⟨b, off + i, none⟩ from by unfold Addr.add; split <;> simp_all] at hc
  exact hc
theorem RI.of_nil {w : World} : RI w none 0 0 [] := ⟨rfl, ⟨by omega, by omega⟩, fun i hi => absurd hi (by omega)⟩

/-- a slice of the call's own, of int64 (type number E): 'ownsRow' at lists of numbers -/
def OI (E : TypeId) (w : World) (lo : Nat) (v : Value) (xs : List Int) : Prop := w.ownsRow lo E 1 v xs.length (xs.map (Value.int .i64))
theorem OI.form {E : TypeId} {w : World} {lo : Nat} {v : Value} {xs : List Int} (h : OI E w lo v xs) : ∃ A c, v = .slice A xs.length c := by
  rcases h.2 with ⟨rfl, hn⟩ | ⟨g, cap, cur, rfl, _⟩
  · exact ⟨none, 0, by rw [hn]⟩
  · exact ⟨_, _, rfl⟩
theorem OI.reads {E : TypeId} {w : World} {lo n c : Nat} {A : Option Addr} {xs : List Int} (h : OI E w lo (.slice A n c) xs) : RI w A n c xs := by
  have hn : n = xs.length ∧ n ≤ c ∧ c ≤ 9223372036854775807 := by
    rcases h.2 with ⟨h1, hn⟩ | ⟨g, cap, cur, h1, _, _, h2, h3, _⟩
    · injection h1 with _ h2 h3; omega
    · injection h1 with _ h4 h5; unfold maxLen at h3; omega
  obtain ⟨hn, hc⟩ := hn
  subst hn
  refine ⟨rfl, hc, fun i hi => ?_⟩
  rcases h.2 with ⟨h1, hn⟩ | ⟨g, cap, cur, h1, _⟩
  · omega
  · injection h1 with h1 h2 h3
    subst h1
    subst h3
    refine ⟨g, 0, rfl, ?_⟩
    have := h.cellAt i (by omega)
    rw [Nat.zero_add, this, List.getElem?_map, gi_some hi]
    rfl
theorem OI.keep {E : TypeId} {w w' : World} {lo : Nat} {v : Value} {xs : List Int} {row : Option Nat} (h : OI E w lo v xs) (hg : w.grownBy w' row) (hne : v.ownBlock = none ∨ v.ownBlock ≠ row) : OI E w' lo v xs := World.ownsRow.kept h hg hne
theorem OI.below {E : TypeId} {w w' : World} {lo : Nat} {v : Value} {xs : List Int} (h : OI E w lo v xs) (hb : Below w.heap.size w w') : OI E w' lo v xs :=
  h.keep (row := none) ⟨hb.os, hb.tape, hb.output, hb.size, fun k hk _ => hb.block k hk⟩ (by cases v.ownBlock <;> simp)
theorem OI.drewN {E : TypeId} {w : World} {lo : Nat} {v : Value} {xs : List Int} (h : OI E w lo v xs) (q : Nat) : OI E (w.drewN q) lo v xs := h
theorem OI.more {E : TypeId} {w : World} {lo lo' : Nat} {v : Value} {xs : List Int} (h : OI E w lo v xs) (hl : lo' ≤ lo) : OI E w lo' v xs := by
  refine ⟨h.1, ?_⟩
  rcases h.2 with h1 | ⟨g, cap, cur, h1, h2, h3⟩
  · exact .inl h1
  · exact .inr ⟨g, cap, cur, h1, by omega, h3⟩

/-- the same, of bool -/
def OB (E : TypeId) (w : World) (lo : Nat) (v : Value) (xs : List Bool) : Prop := w.ownsRow lo E 1 v xs.length (xs.map Value.bool)
section
variable {E : TypeId} {w w' : World} {lo : Nat} {v : Value} {xs : List Bool}
theorem OB.keep {row : Option Nat} (h : OB E w lo v xs) (hg : w.grownBy w' row) (hne : v.ownBlock = none ∨ v.ownBlock ≠ row) : OB E w' lo v xs := World.ownsRow.kept h hg hne
theorem OB.below (h : OB E w lo v xs) (hb : Below w.heap.size w w') : OB E w' lo v xs :=
  h.keep (row := none) ⟨hb.os, hb.tape, hb.output, hb.size, fun k hk _ => hb.block k hk⟩ (by cases v.ownBlock <;> simp)
theorem OB.at_ {g n c i : Nat} (h : OB E w lo (.slice (some ⟨g, 0, none⟩) n c) xs) (hi : i < xs.length) : w.cell? ⟨g, i, none⟩ = some (.bool (gb xs i)) := by
  rcases h.2 with ⟨h1, hn⟩ | ⟨g', cap, cur, h1, _⟩
  · omega
  · injection h1 with h1 h2 h3
    injection h1 with h1
    injection h1 with h1
    subst h2
    have := World.ownsRow.cellAt (w := w) (base := lo) (e := E) (size := 1) (g := g) (cap := c) (n := xs.length) (xs := xs.map Value.bool) h i (by omega)
    rw [this, List.getElem?_map, List.getElem?_eq_getElem hi, gb_get hi]
    rfl
theorem OB.hot {g n c i : Nat} (h : OB E w lo (.slice (some ⟨g, 0, none⟩) n c) xs) (hn : n = xs.length) : w.frozen? ⟨g, i, none⟩ = false := by
  subst hn
  exact World.ownsRow.frozenAt h i
theorem OB.set_ {g n c i : Nat} (h : OB E w lo (.slice (some ⟨g, 0, none⟩) n c) xs) (hn : n = xs.length) (b : Bool) : OB E (w.setCell ⟨g, i, none⟩ (.bool b)) lo (.slice (some ⟨g, 0, none⟩) n c) (xs.set i b) := by
  subst hn
  have := (World.ownsRow.stored h i (.bool b)).1
  unfold OB
  rw [List.length_set, List.map_set]
  exact this
theorem OB.made {g n c : Nat} {cells : List Value} (h : w.ownsRow lo E 1 (.slice (some ⟨g, 0, none⟩) n c) n cells) (hc : cells = (madeCells (Value.bool false).cells (n * 1)).toList) : OB E w lo (.slice (some ⟨g, 0, none⟩) n c) (List.replicate n false) := by
  subst hc
  rw [show (Value.bool false).cells = #[Value.bool false] from rfl, Nat.mul_one, toList_madeCells_one] at h
  unfold OB
  rw [List.length_replicate, List.map_replicate]
  exact h
end
theorem OI.made {E : TypeId} {w : World} {lo g n c : Nat} {cells : List Value} (h : w.ownsRow lo E 1 (.slice (some ⟨g, 0, none⟩) n c) n cells) (hc : cells = (madeCells (Value.int .i64 0).cells (n * 1)).toList) : OI E w lo (.slice (some ⟨g, 0, none⟩) n c) (List.replicate n 0) := by
  subst hc
  rw [show (Value.int .i64 0).cells = #[Value.int .i64 0] from rfl, Nat.mul_one, toList_madeCells_one] at h
  unfold OI
  rw [List.length_replicate, List.map_replicate]
  exact h
theorem OI.hot {E : TypeId} {w : World} {lo g n c i : Nat} {xs : List Int} (h : OI E w lo (.slice (some ⟨g, 0, none⟩) n c) xs) (hn : n = xs.length) : w.frozen? ⟨g, i, none⟩ = false := by
  subst hn
  exact World.ownsRow.frozenAt h i
theorem OI.set_ {E : TypeId} {w : World} {lo g n c i : Nat} {xs : List Int} (h : OI E w lo (.slice (some ⟨g, 0, none⟩) n c) xs) (hn : n = xs.length) (x : Int) : OI E (w.setCell ⟨g, i, none⟩ (.int .i64 x)) lo (.slice (some ⟨g, 0, none⟩) n c) (xs.set i x) := by
  subst hn
  have := (World.ownsRow.stored h i (.int .i64 x)).1
  unfold OI
  rw [List.length_set, List.map_set]
  exact this
theorem OI.cellAt {E : TypeId} {w : World} {lo g n c i : Nat} {xs : List Int} (h : OI E w lo (.slice (some ⟨g, 0, none⟩) n c) xs) (hi : i < xs.length) : w.cell? ⟨g, i, none⟩ = some (.int .i64 (gi xs i)) := by
  obtain ⟨b, off, e, hc⟩ := h.reads.at_ (i := i) (by rw [← h.reads.len]; exact hi)
  injection e with e
  injection e with e1 e2
  subst e1; subst e2
  simpa using hc
theorem gb_set {xs : List Bool} {i j : Nat} {b : Bool} (hi : i < xs.length) : gb (xs.set i b) j = if i = j then b else gb xs j := by
  unfold gb
  rw [List.getD_eq_getElem?_getD, List.getD_eq_getElem?_getD, List.getElem?_set]
  split
  · simp_all
  · rfl
/-- the two rows lie in different blocks -/
def Apart (u v : Value) : Prop := u.ownBlock = none ∨ u.ownBlock ≠ v.ownBlock

theorem OI.far {E : TypeId} {w : World} {lo : Nat} {v : Value} {xs : List Int} {p : Addr} (h : OI E w lo v xs) (hp : p.block < lo) (u : Value) : OI E (w.setCell p u) lo v xs := ownsRow_setCell_below h hp u
theorem OI.lt {E : TypeId} {w : World} {lo : Nat} {v : Value} {xs : List Int} (h : OI E w lo v xs) : ∀ k, v.ownBlock = some k → lo ≤ k ∧ k < w.heap.size := World.ownsRow.lt h
theorem apart_lt {E E' : TypeId} {w w' : World} {lo lo' : Nat} {u v : Value} {xs ys : List Int} (h : OI E w lo u xs) (k : OI E' w' lo' v ys) (hl : w.heap.size ≤ lo') : Apart u v := by
  unfold Apart
  cases hu : u.ownBlock with
  | none => exact .inl rfl
  | some b =>
    refine .inr fun e => ?_
    have h1 := (h.lt b hu).2
    have h2 := (k.lt b e.symm).1
    omega

/-! ### the first index that answers yes, -1 for none -/
def firstI (p : Nat → Bool) : Nat → Int
  | 0 => -1
  | n + 1 => if firstI p n = -1 then (if p n = true then (n : Int) else -1) else firstI p n
theorem firstI_none {p : Nat → Bool} : ∀ {n : Nat}, (∀ j, j < n → p j = false) → firstI p n = -1
  | 0, _ => rfl
  | n + 1, h => by
    rw [firstI, if_pos (firstI_none fun j hj => h j (by omega)), h n (by omega)]
    rfl
theorem firstI_hit {p : Nat → Bool} {k : Nat} (hk : p k = true) (h : ∀ j, j < k → p j = false) : ∀ {n : Nat}, k < n → firstI p n = (k : Int)
  | 0, hn => absurd hn (by omega)
  | n + 1, hn => by
    by_cases e : k = n
    · subst e
      rw [firstI, if_pos (firstI_none h), if_pos hk]
    · rw [firstI, firstI_hit hk h (show k < n by omega), if_neg (by omega)]

/-! ### many rows of int64 held in one list of slice values -/
def gv (cs : List Value) (i : Nat) : Value := cs.getD i undef
theorem gv_get {xs : List Value} {i : Nat} (h : i < xs.length) : gv xs i = xs[i] := by simp [gv, h]
theorem gv_some {xs : List Value} {i : Nat} (h : i < xs.length) : xs[i]? = some (gv xs i) := by simp [gv, h]
theorem gv_set {xs : List Value} {i j : Nat} {b : Value} (hi : i < xs.length) : gv (xs.set i b) j = if i = j then b else gv xs j := by
  unfold gv
  rw [List.getD_eq_getElem?_getD, List.getD_eq_getElem?_getD, List.getElem?_set]
  split
  · simp_all
  · rfl
/-- each value of the list is a row of the call's own, and reads as f says -/
def OL (E : TypeId) (w : World) (lo : Nat) (cs : List Value) (f : Nat → List Int) : Prop := ∀ i, i < cs.length → OI E w lo (gv cs i) (f i)
/-- no two of them share a block -/
def Dis (cs : List Value) : Prop := ∀ i j, i < cs.length → j < cs.length → i ≠ j → Apart (gv cs i) (gv cs j)
theorem OI.nil (E : TypeId) (w : World) (lo : Nat) : OI E w lo (.slice none 0 0) [] := World.ownsRow_nil w lo E 1
theorem OL.far {E : TypeId} {w : World} {lo : Nat} {cs : List Value} {f : Nat → List Int} {p : Addr} (h : OL E w lo cs f) (hp : p.block < lo) (u : Value) : OL E (w.setCell p u) lo cs f := fun i hi => (h i hi).far hp u
theorem OL.below {E : TypeId} {w w' : World} {lo : Nat} {cs : List Value} {f : Nat → List Int} (h : OL E w lo cs f) (hb : Below w.heap.size w w') : OL E w' lo cs f := fun i hi => (h i hi).below hb
theorem OL.more {E : TypeId} {w : World} {lo lo' : Nat} {cs : List Value} {f : Nat → List Int} (h : OL E w lo cs f) (hl : lo' ≤ lo) : OL E w lo' cs f := fun i hi => (h i hi).more hl
theorem OL.lt {E : TypeId} {w : World} {lo : Nat} {cs : List Value} {f : Nat → List Int} (h : OL E w lo cs f) : ∀ i, i < cs.length → ∀ b, (gv cs i).ownBlock = some b → lo ≤ b ∧ b < w.heap.size := fun i hi b hb => (h i hi).lt b hb
theorem OL.set_ {E : TypeId} {w : World} {lo k : Nat} {cs : List Value} {f : Nat → List Int} {v : Value} {xs : List Int} (h : OL E w lo cs f) (hk : k < cs.length) (hv : OI E w lo v xs) : OL E w lo (cs.set k v) (fun i => if k = i then xs else f i) := by
  intro i hi
  rw [List.length_set] at hi
  rw [gv_set hk]
  by_cases e : k = i
  · simpa [e] using hv
  · simpa [e] using h i hi
theorem OL.congr {E : TypeId} {w : World} {lo : Nat} {cs : List Value} {f g : Nat → List Int} (h : OL E w lo cs f) (e : ∀ i, i < cs.length → f i = g i) : OL E w lo cs g := fun i hi => e i hi ▸ h i hi
theorem Apart.symm {u v : Value} (h : Apart u v) : Apart v u := by
  unfold Apart at *
  rcases h with h | h
  · cases hv : v.ownBlock with
    | none => exact .inl rfl
    | some b => exact .inr fun e => by rw [h] at e; cases e
  · cases hv : v.ownBlock with
    | none => exact .inl rfl
    | some b => exact .inr fun e => h (e.symm.trans hv.symm).symm.symm
theorem Dis.set_ {cs : List Value} {k : Nat} {v : Value} (h : Dis cs) (hk : k < cs.length) (hv : ∀ i, i < cs.length → i ≠ k → Apart (gv cs i) v) : Dis (cs.set k v) := by
  intro i j hi hj hne
  rw [List.length_set] at hi hj
  rw [gv_set hk, gv_set hk]
  by_cases e1 : k = i
  · subst e1
    rw [if_pos rfl, if_neg (fun e => hne e)]
    exact (hv j hj (fun e => hne e.symm)).symm
  · rw [if_neg e1]
    by_cases e2 : k = j
    · subst e2
      rw [if_pos rfl]
      exact hv i hi (fun e => e1 e.symm)
    · rw [if_neg e2]
      exact h i j hi hj hne
theorem row_len {E : TypeId} {w : World} {lo size n : Nat} {v : Value} {cs : List Value} (h : w.ownsRow lo E size v n cs) : cs.length = n * size := h.1
theorem row_cell {E : TypeId} {w : World} {lo size n c g : Nat} {cs : List Value} (h : w.ownsRow lo E size (.slice (some ⟨g, 0, none⟩) n c) n cs) {j : Nat} (hj : j < n * size) : w.cell? ⟨g, j, none⟩ = some (gv cs j) := by
  rw [h.cellAt j hj, gv_some (by rw [h.1]; exact hj)]
theorem row_below {E : TypeId} {w w' : World} {lo size n : Nat} {v : Value} {cs : List Value} (h : w.ownsRow lo E size v n cs) (hb : Below w.heap.size w w') : w'.ownsRow lo E size v n cs :=
  World.ownsRow.kept h (row := none) ⟨hb.os, hb.tape, hb.output, hb.size, fun k hk _ => hb.block k hk⟩ (by cases v.ownBlock <;> simp)
theorem row_more {E : TypeId} {w : World} {lo lo' size n : Nat} {v : Value} {cs : List Value} (h : w.ownsRow lo E size v n cs) (hl : lo' ≤ lo) : w.ownsRow lo' E size v n cs := by
  refine ⟨h.1, ?_⟩
  rcases h.2 with h1 | ⟨g, cap, cur, h1, h2, h3⟩
  · exact .inl h1
  · exact .inr ⟨g, cap, cur, h1, by omega, h3⟩
theorem row_form {E : TypeId} {w : World} {lo size n : Nat} {v : Value} {cs : List Value} (h : w.ownsRow lo E size v n cs) : ∃ A c, v = .slice A n c ∧ n ≤ c ∧ c ≤ 9223372036854775807 ∧ (0 < n → ∃ g, A = some ⟨g, 0, none⟩) := by
  rcases h.2 with ⟨rfl, hn⟩ | ⟨g, cap, cur, rfl, _, _, h1, h2, _⟩
  · exact ⟨none, 0, by rw [hn], by omega, by omega, fun h => by omega⟩
  · exact ⟨_, _, rfl, h1, by unfold maxLen at h2; omega, fun _ => ⟨g, rfl⟩⟩
theorem OL.nil {E : TypeId} {w : World} {lo : Nat} {n : Nat} {v : Value} (hv : v = .slice none 0 0) : OL E w lo (List.replicate n v) (fun _ => []) := by
  intro i hi
  rw [List.length_replicate] at hi
  rw [gv_get (by simpa using hi), List.getElem_replicate, hv]
  exact OI.nil _ _ _
theorem Dis.nil {n : Nat} : Dis (List.replicate n (.slice none 0 0)) := by
  intro i j hi _ _
  rw [List.length_replicate] at hi
  rw [gv_get (by simpa using hi), List.getElem_replicate]
  exact .inl rfl

/-! ### what is left of a purse of l when t is taken -/
end Go.Proofs.YtjjaolndencplaaGreat
namespace Go.Proofs.YtjjaolndencplaaGreat
open Go.RowKit

def inR (x lo hi : Int) : Bool := decide (lo ≤ x ∧ x ≤ hi)
def hasL (xs : List Int) (x : Int) : Bool := decide (x ∈ xs)
def eqL (xs ys : List Int) : Bool := decide (xs = ys)
theorem eqL_of {xs ys : List Int} {n : Nat} (h1 : xs.length = n) (h2 : ys.length = n) (h : ∀ j, j < n → gi xs j = gi ys j) : eqL xs ys = true :=
  decide_eq_true (gi_ext (h1.trans h2.symm) fun j hj => h j (by omega))
theorem eqL_ne {xs ys : List Int} {k : Nat} (h : gi xs k ≠ gi ys k) : eqL xs ys = false := by
  refine decide_eq_false ?_
  rintro rfl
  exact h rfl
theorem eqL_len {xs ys : List Int} (h : xs.length ≠ ys.length) : eqL xs ys = false := by
  refine decide_eq_false ?_
  rintro rfl
  exact h rfl
theorem hasL_of {xs : List Int} {x : Int} {k n : Nat} (hl : xs.length = n) (hk : k < n) (h : gi xs k = x) : hasL xs x = true :=
  decide_eq_true (h ▸ gi_mem (by omega))
theorem hasL_no {xs : List Int} {x : Int} {n : Nat} (hl : xs.length = n) (h : ∀ j, j < n → gi xs j ≠ x) : hasL xs x = false :=
  decide_eq_false fun hm => by
    obtain ⟨i, hi, e⟩ := mem_gi hm
    exact h i (by omega) e

theorem l1In (x lo hi : Int) (w : World) :
    Calls Tryz.prog 53 #[.int .i64 x, .int .i64 lo, .int .i64 hi] w fun e w' => e = .returned (.bool (inR x lo hi)) ∧ Qt w w' := by
  by_cases h1 : lo ≤ x
  · by_cases h2 : x ≤ hi
    · have H := Lib.hid (show inR x lo hi = true from decide_eq_true ⟨h1, h2⟩)
      go_enter Tryz.func53, Tryz.ntmps53
      go_wp2
      go_ret
      exact ⟨ret_b H.out.symm, Qt.refl _⟩
    · have H := Lib.hid (show inR x lo hi = false from decide_eq_false fun h => h2 h.2)
      go_enter Tryz.func53, Tryz.ntmps53
      go_wp2
      go_ret
      exact ⟨ret_b H.out.symm, Qt.refl _⟩
  · have H := Lib.hid (show inR x lo hi = false from decide_eq_false fun h => h1 h.1)
    go_enter Tryz.func53, Tryz.ntmps53
    go_wp2
    go_ret
    exact ⟨ret_b H.out.symm, Qt.refl _⟩

theorem l16Has (A : Option Addr) (n c : Nat) (xs : List Int) (x : Int) (w : World) (ha : RI w A n c xs) :
    Calls Tryz.prog 60 #[.slice A n c, .int .i64 x] w fun e w' => e = .returned (.bool (hasL xs x)) ∧ Qt w w' := by
  have b1 := ha.cap; have b2 := ha.top
  go_enter Tryz.func60, Tryz.ntmps60
  go_wp2
  go_loop [5] (fun i => ∃ k : Nat, k ≤ n ∧ i = .int .i64 k ∧ (∀ j, j < k → gi xs j ≠ x)) (fun i => n - (intOf i).toNat)
  case atStart => exact ⟨0, Nat.zero_le _, rfl, by omega⟩
  case round =>
    obtain ⟨k, hk, rfl, hall⟩ := hrel
    by_cases hlt : k < n
    · obtain ⟨b, off, rfl, hc1⟩ := ha.at_ hlt
      by_cases he : gi xs k = x
      · have H := Lib.hid he
        have hne : (gi xs k == x) = true := by simp [he]
        clear he
        go_wp2
        go_ret
        exact ⟨ret_b (hasL_of ha.1 hlt H.out).symm, Qt.refl _⟩
      · have H := Lib.hid he
        have hne : (gi xs k == x) = false := by simp [he]
        clear he
        go_wp2
        go_round
        case rel => exact ⟨k + 1, by omega, by go_num, all_succ hall H.out⟩
        case measure => simp [intOf]; omega
    · go_wp2
      go_ret
      obtain rfl : k = n := by omega
      exact ⟨ret_b (hasL_no ha.1 hall).symm, Qt.refl _⟩
end Go.Proofs.YtjjaolndencplaaGreat
namespace Go.Proofs.YtjjaolndencplaaGreat
open Go.RowKit

def gl (xs : List (List Int)) (i : Nat) : List Int := xs.getD i []
theorem gl_get {xs : List (List Int)} {i : Nat} (h : i < xs.length) : gl xs i = xs[i] := by simp [gl, h]
theorem take_gl {xs : List (List Int)} {k : Nat} (h : k < xs.length) : xs.take (k + 1) = xs.take k ++ [gl xs k] := by
  rw [gl_get h, List.take_succ_eq_append_getElem h]

/-- a slice of slices that reads as a list of lists -/
def RII (w : World) (A : Option Addr) (n c : Nat) (xs : List (List Int)) : Prop :=
  xs.length = n ∧ (n ≤ c ∧ c ≤ 9223372036854775807) ∧ ∀ i, i < n → ∃ b off A' n' c', A = some ⟨b, off, none⟩ ∧ w.cell? ⟨b, off + i, none⟩ = some (.slice A' n' c') ∧ RI w A' n' c' (gl xs i)
section
variable {w w' : World} {A : Option Addr} {n c : Nat} {xs : List (List Int)}
theorem RII.len (h : RII w A n c xs) : xs.length = n := h.1
theorem RII.cap (h : RII w A n c xs) : n ≤ c := h.2.1.1
theorem RII.top (h : RII w A n c xs) : c ≤ 9223372036854775807 := h.2.1.2
theorem RII.at_ (h : RII w A n c xs) {i : Nat} (hi : i < n) : ∃ b off A' n' c', A = some ⟨b, off, none⟩ ∧ w.cell? ⟨b, off + i, none⟩ = some (.slice A' n' c') ∧ RI w A' n' c' (gl xs i) := h.2.2 i hi
theorem RII.keep (h : RII w A n c xs) (k : Keeps w w') : RII w' A n c xs :=
  ⟨h.1, h.2.1, fun i hi => by
    obtain ⟨b, off, A', n', c', e, hc, hr⟩ := h.2.2 i hi
    exact ⟨b, off, A', n', c', e, k _ _ hc, hr.keep k⟩⟩
end
/-- from a row of slice values, each of the call's own -/
theorem RII.of_rows {w : World} {E EE : TypeId} {lo lo' n c : Nat} {A : Option Addr} {cs : List Value} {xs : List (List Int)} (hl : xs.length = n)
    (h1 : w.ownsRow lo EE 1 (.slice A n c) n cs) (h2 : OL E w lo' cs (gl xs)) : RII w A n c xs := by
  obtain ⟨A', c', e, hc1, hc2, hg⟩ := row_form h1
  injection e with e1 e2 e3
  subst e1; subst e3
  refine ⟨hl, ⟨hc1, hc2⟩, fun i hi => ?_⟩
  obtain ⟨g, rfl⟩ := hg (by omega)
  have hcl := row_len h1
  have o := h2 i (by omega)
  have k := row_cell h1 (j := i) (by omega)
  obtain ⟨A2, c2, e2⟩ := o.form
  rw [e2] at o k
  exact ⟨g, 0, A2, _, c2, rfl, by simpa using k, o.reads⟩

/-! ### marks -/
/-- k, k + 1, .. -/
def upto (k : Int) (n : Nat) : List Int := (List.range n).map fun (i : Nat) => k + (i : Int)
/-- what has turned lies in S -/
structure Chg (S : Nat → Prop) (w w' : World) : Prop where
  os : w'.os = w.os
  tape : w'.tape = w.tape
  output : w'.output = w.output
  size : w.heap.size ≤ w'.heap.size
  block : ∀ k, k < w.heap.size → ¬ S k → w'.heap[k]? = w.heap[k]?
theorem Chg.refl (S : Nat → Prop) (w : World) : Chg S w w := ⟨rfl, rfl, rfl, Nat.le_refl _, fun _ _ _ => rfl⟩
theorem Chg.trans {S T U : Nat → Prop} {a b c : World} (h : Chg S a b) (k : Chg T b c) (hS : ∀ x, S x → U x) (hT : ∀ x, T x → U x) : Chg U a c :=
  ⟨k.os.trans h.os, k.tape.trans h.tape, k.output.trans h.output, Nat.le_trans h.size k.size, fun x hx hu =>
    (k.block x (Nat.lt_of_lt_of_le hx h.size) (fun hs => hu (hT x hs))).trans (h.block x hx (fun hs => hu (hS x hs)))⟩
theorem Chg.mono {S T : Nat → Prop} {a b : World} (h : Chg S a b) (hS : ∀ x, S x → T x) : Chg T a b := ⟨h.os, h.tape, h.output, h.size, fun x hx hu => h.block x hx (fun hs => hu (hS x hs))⟩
theorem Chg.below {S : Nat → Prop} {a b : World} {B : Nat} (h : Chg S a b) (hB : B ≤ a.heap.size) (hS : ∀ x, S x → B ≤ x) : Below B a b :=
  ⟨h.os, h.tape, h.output, h.size, fun x hx => h.block x (by omega) (fun hs => by have := hS x hs; omega)⟩
theorem Chg.of_grown {a b : World} {row : Option Nat} (h : a.grownBy b row) : Chg (fun x => row = some x) a b :=
  ⟨h.os, h.tape, h.output, h.size, fun x hx hu => h.block x hx (fun e => hu e.symm)⟩
theorem Chg.of_below {a b : World} {B : Nat} (h : Below B a b) : Chg (fun x => B ≤ x) a b := ⟨h.os, h.tape, h.output, h.size, fun x _ hu => h.block x (by omega)⟩
theorem row_chg {E : TypeId} {S : Nat → Prop} {w w' : World} {lo size n : Nat} {v : Value} {cs : List Value} (h : w.ownsRow lo E size v n cs) (hc : Chg S w w') (hS : ∀ b, v.ownBlock = some b → ¬ S b) : w'.ownsRow lo E size v n cs := by
  refine ⟨h.1, ?_⟩
  rcases h.2 with h1 | ⟨g, cap, cur, rfl, h2, h3, h4⟩
  · exact .inl h1
  · exact .inr ⟨g, cap, cur, rfl, h2, (hc.block g (Array.getElem?_eq_some_iff.1 h3).1 (hS g rfl)).trans h3, h4⟩
theorem OI.chg {E : TypeId} {S : Nat → Prop} {w w' : World} {lo : Nat} {v : Value} {xs : List Int} (h : OI E w lo v xs) (hc : Chg S w w') (hS : ∀ b, v.ownBlock = some b → ¬ S b) : OI E w' lo v xs := row_chg h hc hS
/-- rows of different element types never share a block -/
theorem own_ne {w : World} {E E' : TypeId} {lo lo' s s' n n' : Nat} {u v : Value} {xs ys : List Value} (h : w.ownsRow lo E s u n xs) (k : w.ownsRow lo' E' s' v n' ys) (hne : E ≠ E') : ∀ b, u.ownBlock = some b → v.ownBlock ≠ some b := by
  intro b hu hv
  rcases h.2 with ⟨rfl, _⟩ | ⟨g, cap, cur, rfl, _, h3, _⟩
  · simp [Value.ownBlock] at hu
  · rcases k.2 with ⟨rfl, _⟩ | ⟨g', cap', cur', rfl, _, k3, _⟩
    · simp [Value.ownBlock] at hv
    · simp [Value.ownBlock] at hu hv
      subst hu; subst hv
      rw [h3] at k3
      injection k3 with k3
      injection k3 with _ k4
      exact hne k4

end Go.Proofs.YtjjaolndencplaaGreat
namespace Go.Proofs.YtjjaolndencplaaGreat
open Go.RowKit

end Go.Proofs.YtjjaolndencplaaGreat
namespace Go.Proofs.YtjjaolndencplaaGreat
open Go.RowKit

/-- owners, successors, priorities -/
abbrev ParD := List Int × List (List Int) × List Int

def RIv (w : World) (v : Value) (xs : List Int) : Prop := ∃ A n c, v = .slice A n c ∧ RI w A n c xs
def RIIv (w : World) (v : Value) (xs : List (List Int)) : Prop := ∃ A n c, v = .slice A n c ∧ RII w A n c xs
theorem RIv.keep {w w' : World} {v : Value} {xs : List Int} (h : RIv w v xs) (k : Keeps w w') : RIv w' v xs := by
  obtain ⟨A, n, c, rfl, h⟩ := h
  exact ⟨A, n, c, rfl, h.keep k⟩
theorem RIIv.keep {w w' : World} {v : Value} {xs : List (List Int)} (h : RIIv w v xs) (k : Keeps w w') : RIIv w' v xs := by
  obtain ⟨A, n, c, rfl, h⟩ := h
  exact ⟨A, n, c, rfl, h.keep k⟩
theorem OI.rv {E : TypeId} {w : World} {lo : Nat} {v : Value} {xs : List Int} (h : OI E w lo v xs) : RIv w v xs := by
  obtain ⟨A, c, rfl⟩ := h.form
  exact ⟨A, _, c, rfl, h.reads⟩
/-- an arena that reads as (owners, successors); a game -/
def RAv (w : World) (s0 s1 : Value) (o : List Int) (n : List (List Int)) : Prop := RIv w s0 o ∧ RIIv w s1 n
def RPv (w : World) (s0 s1 s2 : Value) (g : ParD) : Prop := RAv w s0 s1 g.1 g.2.1 ∧ RIv w s2 g.2.2
theorem RAv.keep {w w' : World} {s0 s1 : Value} {o : List Int} {n : List (List Int)} (h : RAv w s0 s1 o n) (k : Keeps w w') : RAv w' s0 s1 o n := ⟨h.1.keep k, h.2.keep k⟩
theorem RPv.keep {w w' : World} {s0 s1 s2 : Value} {g : ParD} (h : RPv w s0 s1 s2 g) (k : Keeps w w') : RPv w' s0 s1 s2 g := ⟨h.1.keep k, h.2.keep k⟩

/-- an arena, a game of the call's own: no block shared -/
def OAr (w : World) (lo : Nat) (s0 s1 : Value) (cs : List Value) (o : List Int) (n : List (List Int)) : Prop :=
  OI 2 w lo s0 o ∧ w.ownsRow lo 27 1 s1 n.length cs ∧ OL 2 w lo cs (gl n)
def OPar (w : World) (lo : Nat) (s0 s1 s2 : Value) (g : ParD) : Prop := ∃ cs, OAr w lo s0 s1 cs g.1 g.2.1 ∧ OI 2 w lo s2 g.2.2 ∧ Dis (s0 :: s2 :: cs)
section
variable {w w' : World} {lo lo' : Nat} {s0 s1 s2 : Value} {cs : List Value} {o : List Int} {n : List (List Int)} {g : ParD}
theorem OL.chg {E : TypeId} {S : Nat → Prop} {f : Nat → List Int} (h : OL E w lo cs f) (hc : Chg S w w') (hS : ∀ b, S b → b < lo) : OL E w' lo cs f := fun i hi =>
  (h i hi).chg hc fun b hb hs => by have := ((h i hi).lt b hb).1; have := hS b hs; omega
theorem OAr.chg {S : Nat → Prop} (h : OAr w lo s0 s1 cs o n) (hc : Chg S w w') (hS : ∀ b, S b → b < lo) : OAr w' lo s0 s1 cs o n :=
  ⟨h.1.chg hc fun b hb hs => by have := (h.1.lt b hb).1; have := hS b hs; omega,
   row_chg h.2.1 hc fun b hb hs => by have := (World.ownsRow.lt h.2.1 b hb).1; have := hS b hs; omega, h.2.2.chg hc hS⟩
theorem OPar.chg {S : Nat → Prop} (h : OPar w lo s0 s1 s2 g) (hc : Chg S w w') (hS : ∀ b, S b → b < lo) : OPar w' lo s0 s1 s2 g := by
  obtain ⟨cs, h1, h2, h3⟩ := h
  exact ⟨cs, h1.chg hc hS, h2.chg hc fun b hb hs => by have := (h2.lt b hb).1; have := hS b hs; omega, h3⟩
theorem OAr.below (h : OAr w lo s0 s1 cs o n) (hb : Below w.heap.size w w') : OAr w' lo s0 s1 cs o n := ⟨h.1.below hb, row_below h.2.1 hb, h.2.2.below hb⟩
theorem OPar.below (h : OPar w lo s0 s1 s2 g) (hb : Below w.heap.size w w') : OPar w' lo s0 s1 s2 g := by
  obtain ⟨cs, h1, h2, h3⟩ := h
  exact ⟨cs, h1.below hb, h2.below hb, h3⟩
theorem OAr.more (h : OAr w lo s0 s1 cs o n) (hl : lo' ≤ lo) : OAr w lo' s0 s1 cs o n := ⟨h.1.more hl, row_more h.2.1 hl, h.2.2.more hl⟩
theorem OPar.more (h : OPar w lo s0 s1 s2 g) (hl : lo' ≤ lo) : OPar w lo' s0 s1 s2 g := by
  obtain ⟨cs, h1, h2, h3⟩ := h
  exact ⟨cs, h1.more hl, h2.more hl, h3⟩
theorem OAr.far {p : Addr} (h : OAr w lo s0 s1 cs o n) (hp : p.block < lo) (u : Value) : OAr (w.setCell p u) lo s0 s1 cs o n :=
  ⟨h.1.far hp u, ownsRow_setCell_below h.2.1 hp u, h.2.2.far hp u⟩
theorem OPar.far {p : Addr} (h : OPar w lo s0 s1 s2 g) (hp : p.block < lo) (u : Value) : OPar (w.setCell p u) lo s0 s1 s2 g := by
  obtain ⟨cs, h1, h2, h3⟩ := h
  exact ⟨cs, h1.far hp u, h2.far hp u, h3⟩
theorem OAr.reads (h : OAr w lo s0 s1 cs o n) : RAv w s0 s1 o n := by
  obtain ⟨A, c, e, _⟩ := row_form h.2.1
  have h2 := h.2.1
  rw [e] at h2
  exact ⟨h.1.rv, A, _, c, e, RII.of_rows rfl h2 h.2.2⟩
theorem OPar.reads (h : OPar w lo s0 s1 s2 g) : RPv w s0 s1 s2 g := by
  obtain ⟨cs, h1, h2, h3⟩ := h
  exact ⟨h1.reads, h2.rv⟩
theorem OPar.form (h : OPar w lo s0 s1 s2 g) : ∃ A0 c0 A1 c1 A2 c2, s0 = .slice A0 g.1.length c0 ∧ s1 = .slice A1 g.2.1.length c1 ∧ s2 = .slice A2 g.2.2.length c2 := by
  obtain ⟨cs, h1, h2, h3⟩ := h
  obtain ⟨A0, c0, e0⟩ := h1.1.form
  obtain ⟨A1, c1, e1, _⟩ := row_form h1.2.1
  obtain ⟨A2, c2, e2⟩ := h2.form
  exact ⟨A0, c0, A1, c1, A2, c2, e0, e1, e2⟩
theorem OPar.nil (w : World) (lo : Nat) : OPar w lo (.slice none 0 0) (.slice none 0 0) (.slice none 0 0) ([], [], []) := by
  refine ⟨[], ⟨OI.nil _ _ _, World.ownsRow_nil w lo _ 1, fun i hi => absurd hi (by simp)⟩, OI.nil _ _ _, ?_⟩
  intro i j hi hj hne
  simp at hi hj
  have : gv [Value.slice none 0 0, .slice none 0 0] i = .slice none 0 0 := by
    have : i = 0 ∨ i = 1 := by omega
    rcases this with rfl | rfl <;> rfl
  rw [this]
  exact .inl rfl
end

end Go.Proofs.YtjjaolndencplaaGreat
namespace Go.Proofs.YtjjaolndencplaaGreat
open Go.RowKit

theorem Chg.alloc {S : Nat → Prop} {a w : World} (h : Chg S a w) (o : Obj) : Chg S a (w.alloc o) :=
  ⟨h.os, h.tape, h.output, by have := h.size; simp; omega, fun x hx hs => (Below.heap_alloc w o x (Nat.lt_of_lt_of_le hx h.size)).trans (h.block x hx hs)⟩
theorem gv_cons_succ (v : Value) (cs : List Value) (i : Nat) : gv (v :: cs) (i + 1) = gv cs i := by simp [gv]
theorem gv_cons_zero (v : Value) (cs : List Value) : gv (v :: cs) 0 = v := rfl
theorem Dis.tail {v : Value} {cs : List Value} (h : Dis (v :: cs)) : Dis cs := fun i j hi hj hne => by
  have := h (i + 1) (j + 1) (by simpa using hi) (by simpa using hj) (by omega)
  rwa [gv_cons_succ, gv_cons_succ] at this
theorem Dis.head {v : Value} {cs : List Value} (h : Dis (v :: cs)) {i : Nat} (hi : i < cs.length) : Apart v (gv cs i) := by
  have := h 0 (i + 1) (by simp) (by simpa using hi) (by omega)
  rwa [gv_cons_succ, gv_cons_zero] at this
theorem Dis.cons {v : Value} {cs : List Value} (h : Dis cs) (hv : ∀ i, i < cs.length → Apart v (gv cs i)) : Dis (v :: cs) := by
  intro i j hi hj hne
  rcases i with _ | i
  · rcases j with _ | j
    · exact absurd rfl hne
    · rw [gv_cons_succ, gv_cons_zero]; exact hv j (by simpa using hj)
  · rcases j with _ | j
    · rw [gv_cons_succ, gv_cons_zero]; exact (hv i (by simpa using hi)).symm
    · rw [gv_cons_succ, gv_cons_succ]; exact h i j (by simpa using hi) (by simpa using hj) (by omega)
theorem Dis.skip {u v : Value} {cs : List Value} (h : Dis (u :: v :: cs)) : Dis (u :: cs) := h.tail.tail.cons fun i hi => by
  have := h 0 (i + 2) (by simp) (by simpa using hi) (by omega)
  rwa [show i + 2 = (i + 1) + 1 from rfl, gv_cons_succ, gv_cons_succ, gv_cons_zero] at this
theorem apart_not {u v : Value} (h : Apart u v) {b : Nat} (hu : u.ownBlock = some b) : v.ownBlock ≠ some b := by
  intro hv
  rcases h with h | h
  · rw [h] at hu; cases hu
  · exact h (hu.trans hv.symm)

end Go.Proofs.YtjjaolndencplaaGreat
namespace Go.Proofs.YtjjaolndencplaaGreat
open Go.RowKit

theorem Chg.set {w : World} (p : Addr) (u : Value) : Chg (fun x => x = p.block) w (w.setCell p u) :=
  ⟨rfl, rfl, rfl, by simp [World.setCell], fun k _ hne => Below.heap_setCell w p u k hne⟩
/-- block b is just these cells, none frozen -/
def Box (w : World) (b : Nat) (t : TypeId) (cs : Array Value) : Prop := w.heap[b]? = some (.cells cs t (0, 0))
section
variable {w w' : World} {b : Nat} {t : TypeId} {cs : Array Value}
theorem Box.lt (h : Box w b t cs) : b < w.heap.size := (Array.getElem?_eq_some_iff.1 h).1
theorem Box.cell (h : Box w b t cs) (i : Nat) : w.cell? ⟨b, i, none⟩ = cs[i]? := cell_of_row w b i cs t (0, 0) h
theorem Box.hot (h : Box w b t cs) (i : Nat) : w.frozen? ⟨b, i, none⟩ = false := by
  unfold Box at h
  simp [World.frozen?, h]
theorem Box.new (w : World) (t : TypeId) (cs : Array Value) : Box (w.alloc (.cells cs t)) w.heap.size t cs := heap_alloc_new w _
theorem Box.new' (h : b = w.heap.size) : Box (w.alloc (.cells cs t)) b t cs := by subst h; exact Box.new _ _ _
theorem Box.alloc (h : Box w b t cs) (o : Obj) : Box (w.alloc o) b t cs := (Below.heap_alloc w o b h.lt).trans h
theorem Box.drew (h : Box w b t cs) : Box w.drew b t cs := h
theorem OI.lit1 {E : TypeId} {w : World} {B : Nat} {x : Int} (hB : B ≤ w.heap.size) : OI E (w.alloc (.cells #[.int .i64 x] E)) B (.slice (some ⟨w.heap.size, 0, none⟩) 1 1) [x] := World.ownsRow_lit w #[.int .i64 x] 1 hB (by decide) rfl
theorem OI.drew {E : TypeId} {w : World} {lo : Nat} {v : Value} {xs : List Int} (h : OI E w lo v xs) : OI E w.drew lo v xs := h
theorem keepA {w : World} {o : Obj} {p : Addr} {v : Value} (h : w.cell? p = some v) : (w.alloc o).cell? p = some v := keeps_alloc w o p v h
theorem keepD {w : World} {p : Addr} {v : Value} (h : w.cell? p = some v) : w.drew.cell? p = some v := h
theorem Box.drewN (h : Box w b t cs) (q : Nat) : Box (w.drewN q) b t cs := h
theorem Box.below {B : Nat} (h : Box w b t cs) (hb : Below B w w') (hB : b < B) : Box w' b t cs := (hb.block b hB).trans h
theorem Box.grown {row : Option Nat} (h : Box w b t cs) (hg : w.grownBy w' row) (hne : ∀ x, row = some x → x ≠ b) : Box w' b t cs := (hg.block b h.lt (fun e => hne b e.symm rfl)).trans h
theorem Box.far {p : Addr} (h : Box w b t cs) (hp : b ≠ p.block) (u : Value) : Box (w.setCell p u) b t cs := (Below.heap_setCell w p u b hp).trans h
theorem Box.set_ (h : Box w b t cs) (i : Nat) (u : Value) : Box (w.setCell ⟨b, i, none⟩ u) b t (cs.setIfInBounds i u) := by
  unfold Box at h ⊢
  simp [World.setCell, Array.getElem?_modify, h]
end

theorem apart_sep {u x : Value} {H : Nat} (hu : ∀ b, u.ownBlock = some b → b < H) (hx : ∀ b, x.ownBlock = some b → H ≤ b) : Apart u x := by
  unfold Apart
  cases e : u.ownBlock with
  | none => exact .inl rfl
  | some b => exact .inr fun e' => by have := hu b e; have := hx b e'.symm; omega
theorem push_news {w : World} {b : Nat} {u : Value} (hu : w.cell? ⟨b, 0, none⟩ = some u) : ∀ (j : Nat) (x : Value), [u][j]? = some x → w.cell? ((⟨b, 0, none⟩ : Addr).add j) = some x := by
  intro j x hx
  match j, hx with
  | 0, hx => simp at hx; subst hx; simpa [Addr.add] using hu

section
variable {P : Program} (w : World)
theorem wpList_push {ops : Array Oper} {rest : List Oper} {o : Oper} {a : Act} {Q : Exit → Act → World → Prop} (hgd : o.guard = none) (s x : Operand) (t : TypeId)
    (ho : o.op = .call { callee := .builtin .append, args := #[s, x], argTypes := #[t, t] })
    (lo : Nat) (e : TypeId) (i : TypeInfo) (z : Value) (bytes : Nat) (ht : P.underlying t = some (.slice e)) (hi : P.info? e = some i) (hz : i.zero = some z)
    (hsize : i.size = 1) (hby : i.bytes = bytes) (hzs : z.cells.size = 1)
    (v : Value) (n : Nat) (xs : List Value) (hs : a.eval s = v) (hown : w.ownsRow lo e 1 v n xs) (b : Nat) (u : Value) (hx : a.eval x = .slice (some ⟨b, 0, none⟩) 1 1) (hu : w.cell? ⟨b, 0, none⟩ = some u) (h1 : u.oneCell' = true)
    (hn : n ≤ 4194304) (hbt : bytes ≤ 1024) (hlo : lo ≤ w.heap.size)
    (h : ∀ g cap w', w'.ownsRow lo e 1 (.slice (some ⟨g, 0, none⟩) (n + 1) cap) (n + 1) (xs ++ [u]) → w.grownBy w' v.ownBlock → (v.ownBlock = some g ∨ g = w.heap.size) → g < w'.heap.size → wpList P ops Q rest (a.put o.dst (.slice (some ⟨g, 0, none⟩) (n + 1) cap)) w') : wpList P ops Q (o :: rest) a w :=
  wpList_append_lies w hgd s x t ho lo e i z 1 bytes ht hi hz hsize hby hzs (by decide) v n xs hs hown ⟨b, 0, none⟩ 1 1 [u] hx rfl (push_news hu) (by simpa using h1) (by decide) (by unfold maxLen; omega)
    (Nat.le_trans (Nat.mul_le_mul (show n + 1 ≤ 4194305 by omega) hbt) (by decide)) hlo w.heap.size rfl h
end
end Go.Proofs.YtjjaolndencplaaGreat
namespace Go.Proofs.YtjjaolndencplaaGreat
open Go.RowKit

theorem infoI' : (Tryz.prog.info? 2).map (fun i => (i.zero, i.size, i.bytes)) = some (some (.int .i64 0), 1, 8) := by kernel_rfl
theorem infoII : (Tryz.prog.info? 27).map (fun i => (i.zero, i.size, i.bytes)) = some (some (.slice none 0 0), 1, 24) := by kernel_rfl

theorem OI.app {E : TypeId} {w : World} {lo n : Nat} {v : Value} {xs : List Int} {x : Int} (h : w.ownsRow lo E 1 v (n + 1) (xs.map (Value.int .i64) ++ [.int .i64 x])) (hn : n = xs.length) : OI E w lo v (xs ++ [x]) := by
  unfold OI
  rw [List.length_append, List.map_append, List.length_singleton, ← hn]
  exact h
theorem gv_app_lt {cs : List Value} {v : Value} {i : Nat} (h : i < cs.length) : gv (cs ++ [v]) i = gv cs i := by simp [gv, List.getElem?_append_left h]
theorem gv_app_eq {cs : List Value} {v : Value} : gv (cs ++ [v]) cs.length = v := by simp [gv]
theorem gl_app_lt {cs : List (List Int)} {v : List Int} {i : Nat} (h : i < cs.length) : gl (cs ++ [v]) i = gl cs i := by simp [gl, List.getElem?_append_left h]
theorem gl_app_eq {cs : List (List Int)} {v : List Int} : gl (cs ++ [v]) cs.length = v := by simp [gl]
theorem OL.app {E : TypeId} {w : World} {lo : Nat} {cs : List Value} {n : List (List Int)} {v : Value} {x : List Int} (h : OL E w lo cs (gl n)) (hv : OI E w lo v x) (hl : cs.length = n.length) : OL E w lo (cs ++ [v]) (gl (n ++ [x])) := by
  intro i hi
  rw [List.length_append, List.length_singleton] at hi
  by_cases e : i < cs.length
  · rw [gv_app_lt e, gl_app_lt (by omega)]
    exact h i e
  · obtain rfl : i = cs.length := by omega
    rw [gv_app_eq, hl, gl_app_eq]
    exact hv
theorem Dis.app {cs : List Value} {v : Value} (h : Dis cs) (hv : ∀ i, i < cs.length → Apart (gv cs i) v) : Dis (cs ++ [v]) := by
  intro i j hi hj hne
  rw [List.length_append, List.length_singleton] at hi hj
  by_cases e1 : i < cs.length
  · by_cases e2 : j < cs.length
    · rw [gv_app_lt e1, gv_app_lt e2]; exact h i j e1 e2 hne
    · obtain rfl : j = cs.length := by omega
      rw [gv_app_lt e1, gv_app_eq]; exact hv i e1
  · obtain rfl : i = cs.length := by omega
    rw [gv_app_eq, gv_app_lt (by omega)]
    exact (hv j (by omega)).symm


section
/-- append of one number to a row of the call's own: the literal's block lies at the world's end -/
theorem wpList_pushI {ops : Array Oper} {rest : List Oper} {o : Oper} {a : Act} {Q : Exit → Act → World → Prop} (hgd : o.guard = none) (s x : Operand)
    (ho : o.op = .call { callee := .builtin .append, args := #[s, x], argTypes := #[27, 27] })
    (w : World) (lo : Nat) (v : Value) (xs : List Int) (hs : a.eval s = v) (hown : OI 2 w lo v xs) (y : Int) (hx : a.eval x = .slice (some ⟨w.heap.size, 0, none⟩) 1 1)
    (hn : xs.length ≤ 4194304) (hlo : lo ≤ w.heap.size)
    (h : ∀ v' w', OI 2 w' lo v' (xs ++ [y]) → Below lo w w' → Chg (fun z => v.ownBlock = some z) w w' → (∀ b, v'.ownBlock = some b → v.ownBlock = some b ∨ w.heap.size ≤ b) →
      wpList Tryz.prog ops Q rest (a.put o.dst v') w') : wpList Tryz.prog ops Q (o :: rest) a (w.alloc (.cells #[.int .i64 y] 2)) := by
  obtain ⟨i0, hi0, hz0, hz1, hz2⟩ := info_parts infoI'
  have hba : Below w.heap.size w (w.alloc (.cells #[.int .i64 y] 2)) := below_alloc (Nat.le_refl _) (Below.refl _ _)
  refine wpList_push _ hgd s x 27 ho lo 2 i0 (.int .i64 0) 8 Tryz.underlying27 hi0 hz0 hz1 hz2 rfl v xs.length (xs.map (Value.int .i64)) hs (hown.below hba) w.heap.size (.int .i64 y) hx ((Box.new w _ _).cell 0) rfl hn (by decide) (by simp; omega) ?_
  intro g c w' r hg hat hlt
  have hc := Chg.of_grown hg
  refine h _ w' (OI.app r rfl) ((hba.mono hlo).trans (hc.below (by simp; omega) (fun z hz => (hown.lt z hz).1))) ?_ ?_
  · exact ((Chg.refl (fun _ => False) w).alloc _).trans hc (fun _ h => h.elim) (fun _ h => h)
  · intro b hb
    simp [Value.ownBlock] at hb
    subst hb
    rcases hat with h | h
    · exact .inl h
    · right; simp at h; omega
end
theorem OI.empty {E : TypeId} {w : World} {B : Nat} (hB : B ≤ w.heap.size) : OI E (w.alloc (.cells #[] E)) B (.slice (some ⟨w.heap.size, 0, none⟩) 0 0) [] := World.ownsRow_lit w #[] 0 hB (by decide) rfl
end Go.Proofs.YtjjaolndencplaaGreat
namespace Go.Proofs.YtjjaolndencplaaGreat
open Go.RowKit

section
variable {w : World} {P : Program}
theorem run_append_nil_cap (base : Nat) (t ty e : TypeId) (i : TypeInfo) (size c : Nat) (ht : P.underlying t = some (.slice e)) (hi : P.info? e = some i)
    (v : Value) (n : Nat) (xs : List Value) (hown : w.ownsRow base e size v n xs) :
    (Builtin.append_ #[t, t] ty #[v, .slice none 0 c]).run P w = .ok v w := by
  rcases hown.2 with ⟨rfl, rfl⟩ | ⟨g, cap, cur, rfl, _, _, hnc, _⟩
  · simp [Builtin.append_, run_underlying ht, sizeOf, typeInfo, hi, Builtin.lenOf, Builtin.firstCells]
  · simp [Builtin.append_, run_underlying ht, sizeOf, typeInfo, hi, Builtin.lenOf, Builtin.firstCells, hnc, storeCells]
end
set_option maxRecDepth 100000 in
theorem wp_appI {o : Oper} {a : Act} {K : Act → World → Prop} {Q : Exit → Act → World → Prop} (s x : Operand)
    (ho : o.op = .call { callee := .builtin .append, args := #[s, x], argTypes := #[27, 27] })
    (w : World) (lo : Nat) (v : Value) (xs : List Int) (hs : a.eval s = v) (hown : OI 2 w lo v xs) (X : Option Addr) (m c : Nat) (ys : List Int) (hx : a.eval x = .slice X m c) (hr : RI w X m c ys)
    (hn : xs.length ≤ 4194304) (hm : m ≤ 4194304) (hlo : lo ≤ w.heap.size)
    (h : ∀ v' w', OI 2 w' lo v' (xs ++ ys) → Below lo w w' → Chg (fun z => v.ownBlock = some z) w w' → (∀ b, v'.ownBlock = some b → v.ownBlock = some b ∨ w.heap.size ≤ b) →
      K (a.put o.dst v') w') : o.wp Tryz.prog a w K Q := by
  obtain ⟨i0, hi0, hz0, hz1, hz2⟩ := info_parts infoI'
  cases X with
  | none =>
    have h0 : m = 0 := by
      rcases Nat.eq_zero_or_pos m with h1 | h1
      · exact h1
      · obtain ⟨b, off, e, _⟩ := hr.at_ h1
        cases e
    subst h0
    have hy : ys = [] := List.eq_nil_of_length_eq_zero hr.len
    subst hy
    have hrun := run_append_nil_cap (P := Tryz.prog) (w := w) lo 27 o.type 2 i0 1 c Tryz.underlying27 hi0 v xs.length (xs.map (Value.int .i64)) hown
    unfold Oper.wp execOp
    simp only [ho, resolve, invoke, builtin, Sem.run_bind, Sem.run_pure, Result.andThen_ok, List.map_toArray, List.map_cons, List.map_nil, hs, hx, hrun]
    exact h v w (by rw [List.append_nil]; exact hown) (Below.refl _ _) (Chg.refl _ _) (fun b hb => .inl hb)
  | some ad =>
    have hnews : ∀ j u, (ys.map (Value.int .i64))[j]? = some u → w.cell? (ad.add j) = some u := by
      intro j u hj
      rw [List.getElem?_map] at hj
      have hjl : j < ys.length := by
        rcases Nat.lt_or_ge j ys.length with h1 | h1
        · exact h1
        · rw [List.getElem?_eq_none h1] at hj; cases hj
      obtain ⟨b, off, e, hc⟩ := hr.at_ (i := j) (by rw [← hr.len]; exact hjl)
      injection e with e
      subst e
      rw [add_at, hc]
      rw [gi_some hjl] at hj
      simpa using hj
    obtain ⟨v', w', hrun, h2, h3, _, h5⟩ := run_append_own_at (P := Tryz.prog) w lo 27 o.type 2 i0 (.int .i64 0) 1 8 Tryz.underlying27 hi0 hz0 hz1 hz2 rfl (by decide) v xs.length (xs.map (Value.int .i64)) hown ad m c (ys.map (Value.int .i64)) (by rw [List.length_map, hr.len]; omega) hnews (fun u hu => by
      obtain ⟨y, _, rfl⟩ := List.mem_map.1 hu
      rfl) (by unfold maxLen; omega) (by omega) hlo
    unfold Oper.wp execOp
    simp only [ho, resolve, invoke, builtin, Sem.run_bind, Sem.run_pure, Result.andThen_ok, List.map_toArray, List.map_cons, List.map_nil, hs, hx, hrun]
    refine (h v' w' ?_ ((Chg.of_grown h3).below hlo (fun z hz => (hown.lt z hz).1)) (Chg.of_grown h3) ?_)
    · unfold OI
      rw [List.length_append, List.map_append, hr.len]
      exact h2
    · intro b hb
      rcases h5 with h5 | h5
      · exact .inl (h5 ▸ hb)
      · right
        rw [h5] at hb
        injection hb with hb
        omega
set_option maxRecDepth 100000 in
theorem wpList_appI {ops : Array Oper} {rest : List Oper} {o : Oper} {a : Act} {Q : Exit → Act → World → Prop} (hgd : o.guard = none) (s x : Operand)
    (ho : o.op = .call { callee := .builtin .append, args := #[s, x], argTypes := #[27, 27] })
    (w : World) (lo : Nat) (v : Value) (xs : List Int) (hs : a.eval s = v) (hown : OI 2 w lo v xs) (X : Option Addr) (m c : Nat) (ys : List Int) (hx : a.eval x = .slice X m c) (hr : RI w X m c ys)
    (hn : xs.length ≤ 4194304) (hm : m ≤ 4194304) (hlo : lo ≤ w.heap.size)
    (h : ∀ v' w', OI 2 w' lo v' (xs ++ ys) → Below lo w w' → Chg (fun z => v.ownBlock = some z) w w' → (∀ b, v'.ownBlock = some b → v.ownBlock = some b ∨ w.heap.size ≤ b) →
      wpList Tryz.prog ops Q rest (a.put o.dst v') w') : wpList Tryz.prog ops Q (o :: rest) a w :=
  wpList_plain hgd fun _ hK => wp_appI s x ho w lo v xs hs hown X m c ys hx hr hn hm hlo fun v' w' h1 h2 h3 h4 => hK _ _ (h v' w' h1 h2 h3 h4)
/-- the same as a step of a region that draws its order -/
theorem step_of_list {P : Program} {ops : Array Oper} {o : Oper} {a : Act} {w : World} {K : Act → World → Prop} {Q : Exit → Act → World → Prop} {E : Prop} (hgd : o.guard = none) (h : Oper.wp P o a w K Q) : if Region.wanted o (yielded ops a.tmps) = true then Oper.wp P o a w K Q else E := by
  have hw : Region.wanted o (yielded ops a.tmps) = true := by simp [Region.wanted, hgd]
  rw [if_pos hw]
  exact h
end Go.Proofs.YtjjaolndencplaaGreat
namespace Go.Proofs.YtjjaolndencplaaGreat
open Go.RowKit

/-- what is asked of the element at i of a set -/
def setAt (xs : List Int) (n : Int) (i : Nat) : Prop := 0 ≤ gi xs i ∧ gi xs i < n ∧ (0 < i → gi xs (i - 1) < gi xs i)
/-- a set of numbers from 0 to n - 1 -/
noncomputable def setB (xs : List Int) (n : Int) : Bool := @decide (∀ i, i < xs.length → setAt xs n i) (Classical.propDecidable _)
theorem setB_true {xs : List Int} {n : Int} : setB xs n = true ↔ ∀ i, i < xs.length → setAt xs n i := by unfold setB; exact @decide_eq_true_iff _ (Classical.propDecidable _)
theorem setB_of {xs : List Int} {n : Int} {m : Nat} (hl : xs.length = m) (h : ∀ i, i < m → setAt xs n i) : setB xs n = true := setB_true.2 (by rw [hl]; exact h)
theorem setB_no {xs : List Int} {n : Int} {m k : Nat} (hl : xs.length = m) (hk : k < m) (h : ¬ setAt xs n k) : setB xs n = false := by
  cases e : setB xs n with
  | false => rfl
  | true => exact absurd (setB_true.1 e k (by omega)) h
theorem set_ge {xs : List Int} {n : Int} {m : Nat} (h : ∀ i, i < m → setAt xs n i) : ∀ i, i < m → (i : Int) ≤ gi xs i
  | 0, h0 => (h 0 h0).1
  | i + 1, h1 => by
    have h2 := set_ge h i (by omega)
    have h3 := (h (i + 1) h1).2.2 (by omega)
    rw [show i + 1 - 1 = i from rfl] at h3
    omega
theorem set_len {xs : List Int} {n : Int} (h : setB xs n = true) (hn : 0 ≤ n) : (xs.length : Int) ≤ n := by
  rcases Nat.eq_zero_or_pos xs.length with h0 | h0
  · omega
  · have h1 := set_ge (setB_true.1 h) (xs.length - 1) (by omega)
    have h2 := (setB_true.1 h (xs.length - 1) (by omega)).2.1
    omega

set_option maxHeartbeats 400000 in
theorem isSet (A : Option Addr) (m c : Nat) (xs : List Int) (n : Int) (w : World) (ha : RI w A m c xs) :
    Calls Tryz.prog 46 #[.slice A m c, .int .i64 n] w fun e w' => e = .returned (.bool (setB xs n)) ∧ Qt w w' := by
  have b1 := ha.cap; have b2 := ha.top
  go_enter Tryz.func46, Tryz.ntmps46
  go_wp2
  go_loop [9] (fun i => ∃ k : Nat, k ≤ m ∧ i = .int .i64 k ∧ (∀ j, j < k → setAt xs n j)) (fun i => m - (intOf i).toNat)
  case atStart => exact ⟨0, Nat.zero_le _, rfl, by omega⟩
  case round =>
    obtain ⟨k, hk, rfl, hall⟩ := hrel
    have HA := Lib.hid hall
    clear hall
    by_cases hlt : k < m
    · obtain ⟨b, off, rfl, hc1⟩ := ha.at_ hlt
      have hbad : ¬ setAt xs n k → setB xs n = false := setB_no ha.len hlt
      by_cases h1 : gi xs k < 0
      · have E := Lib.hid (hbad (fun h => by have := h.1; omega))
        clear hbad
        go_wp2
        go_ret
        exact ⟨ret_b E.out.symm, Qt.refl _⟩
      by_cases h2 : n ≤ gi xs k
      · have E := Lib.hid (hbad (fun h => by have := h.2.1; omega))
        clear hbad
        go_wp2
        go_ret
        exact ⟨ret_b E.out.symm, Qt.refl _⟩
      by_cases h0 : k = 0
      · subst h0
        rw [Nat.add_zero] at hc1
        have H := Lib.hid (show setAt xs n 0 from ⟨by omega, by omega, fun h => absurd h (by omega)⟩)
        clear hbad
        go_wp2
        go_round
        case rel => exact ⟨1, by omega, by go_num, all_succ HA.out H.out⟩
        case measure => simp [intOf]; omega
      · have hk0 : (0 : Int) < (k : Int) := by omega
        obtain ⟨b', off', e', hc2⟩ := ha.at_ (i := k - 1) (by omega)
        injection e' with e'
        injection e' with e1 e2
        subst e1; subst e2
        have e3 : ((k : Int) - 1).toNat = k - 1 := by omega
        have E3 := Lib.hid e3
        by_cases h3 : gi xs k ≤ gi xs (k - 1)
        · have E := Lib.hid (hbad (fun h => by have := h.2.2 (by omega); omega))
          clear hbad
          go_wp2
          go_ret
          exact ⟨ret_b E.out.symm, Qt.refl _⟩
        · have H := Lib.hid (show setAt xs n k from ⟨by omega, by omega, fun _ => by omega⟩)
          clear hbad
          go_wp2
          go_round
          case rel => exact ⟨k + 1, by omega, by go_num, all_succ HA.out H.out⟩
          case measure => simp [intOf]; omega
    · obtain rfl : k = m := by omega
      go_wp2
      go_ret
      exact ⟨ret_b (setB_of ha.len HA.out).symm, Qt.refl _⟩

set_option maxHeartbeats 400000 in
theorem l1Rises (A : Option Addr) (m c : Nat) (xs : List Int) (n : Int) (w : World) (ha : RI w A m c xs) (hn0 : 0 ≤ n) (hn1 : n ≤ 9223372036854775807) :
    Calls Tryz.prog 73 #[.slice A m c, .int .i64 n] w fun e w' => e = .returned (.bool (setB xs n)) ∧ Qt w w' := by
  have b1 := ha.cap; have b2 := ha.top
  have e1 : IntKind.i64.wrap (n - 1) = n - 1 := IntWalk.i64_in _ (by omega)
  go_enter Tryz.func73, Tryz.ntmps73
  go_wp2
  go_loopw [5] (fun i wr => ∃ k : Nat, k ≤ m ∧ i = .int .i64 k ∧ (∀ j, j < k → setAt xs n j) ∧ ∃ q, wr = w.drewN q) (fun i _ => m - (intOf i).toNat)
  case atStart => exact ⟨0, Nat.zero_le _, rfl, by omega, 0, rfl⟩
  case round =>
    obtain ⟨k, hk, rfl, hall, q, rfl⟩ := hrel
    have HA := Lib.hid hall
    clear hall
    by_cases hlt : k < m
    · obtain ⟨b, off, rfl, hc1⟩ := ha.at_ hlt
      have hki : (k : Int) < (m : Int) := by omega
      have hki0 : (0 : Int) ≤ (k : Int) := by omega
      have hbad : ¬ setAt xs n k → setB xs n = false := setB_no ha.len hlt
      by_cases h1 : inR (gi xs k) 0 (n - 1) = true
      · have h1' := of_decide_eq_true h1
        by_cases h0 : k = 0
        · subst h0
          rw [Nat.add_zero] at hc1
          have H := Lib.hid (show setAt xs n 0 from ⟨by omega, by omega, fun h => absurd h (by omega)⟩)
          clear hbad
          have hd : decide ((0 : Int) < ((0 : Nat) : Int)) = false := by simp
          go_wp2
          go_quiet ((go_at_call 53; exact quiet1 (l1In _ _ _ _)))
          go_wp2
          go_roundw
          case rel => exact ⟨1, by omega, by go_num, all_succ HA.out H.out, _, rfl⟩
          case measure => simp [intOf]; omega
        · have hk0 : (0 : Int) < (k : Int) := by omega
          have hk1 : (0 : Int) ≤ (k : Int) - 1 := by omega
          have hk2 : (k : Int) - 1 < (m : Int) := by omega
          obtain ⟨b', off', e', hc2⟩ := ha.at_ (i := k - 1) (by omega)
          injection e' with e'
          injection e' with e2 e3
          subst e2; subst e3
          have e4 : ((k : Int) - 1).toNat = k - 1 := by omega
          have hkn : 0 < k := by omega
          have e5 : IntKind.i64.wrap ((k : Int) - 1) = (k : Int) - 1 := IntWalk.i64_in _ (by omega)
          by_cases h3 : gi xs k ≤ gi xs (k - 1)
          · have E := Lib.hid (hbad (fun h => by have := h.2.2 (by omega); omega))
            clear hbad
            go_wp2
            go_quiet ((go_at_call 53; exact quiet1 (l1In _ _ _ _)))
            go_wp2
            go_ret
            exact ⟨ret_b E.out.symm, Qt.drew2 _ _⟩
          · have H := Lib.hid (show setAt xs n k from ⟨by omega, by omega, fun _ => by omega⟩)
            clear hbad
            have hd : decide (gi xs k ≤ gi xs (k - 1)) = false := by simpa using h3
            go_wp2
            go_quiet ((go_at_call 53; exact quiet1 (l1In _ _ _ _)))
            go_wp2
            go_roundw
            case rel => exact ⟨k + 1, by omega, by go_num, all_succ HA.out H.out, _, rfl⟩
            case measure => simp [intOf]; omega
      · replace h1 : inR (gi xs k) 0 (n - 1) = false := by simpa using h1
        have E := Lib.hid (hbad (fun h => by
          have h5 := of_decide_eq_false h1
          have h6 := h.1
          have h7 := h.2.1
          omega))
        clear hbad
        go_wp2
        go_quiet ((go_at_call 53; exact quiet1 (l1In _ _ _ _)))
        go_wp2
        go_ret
        exact ⟨ret_b E.out.symm, Qt.drew2 _ _⟩
    · obtain rfl : k = m := by omega
      go_wp2
      go_ret
      exact ⟨ret_b (setB_of ha.len HA.out).symm, _, rfl⟩

theorem l1Set (A : Option Addr) (m c : Nat) (xs : List Int) (n : Int) (w : World) (ha : RI w A m c xs) (hn0 : 0 ≤ n) (hn1 : n ≤ 9223372036854775807) :
    Calls Tryz.prog 54 #[.slice A m c, .int .i64 n] w fun e w' => e = .returned (.bool (setB xs n)) ∧ Qt w w' := by
  have b1 := ha.cap; have b2 := ha.top
  by_cases h : (m : Int) ≤ n
  · have hd : decide ((m : Int) ≤ n) = true := by simpa using h
    go_enter Tryz.func54, Tryz.ntmps54
    go_wp2_with (go_at_call 73; refine (l1Rises _ _ _ _ _ _ ha hn0 hn1).mono ?_; rintro e w' ⟨rfl, q, rfl⟩)
    go_ret
    exact ⟨rfl, _, rfl⟩
  · have hd : decide ((m : Int) ≤ n) = false := by simpa using h
    have E := Lib.hid (show setB xs n = false by
      cases e : setB xs n with
      | false => rfl
      | true => have := set_len e hn0; rw [ha.len] at this; omega)
    go_enter Tryz.func54, Tryz.ntmps54
    go_wp2
    go_ret
    exact ⟨ret_b E.out.symm, Qt.refl _⟩

theorem SetOk (A : Option Addr) (m c : Nat) (xs : List Int) (n : Int) (w : World) (ha : RI w A m c xs) :
    Calls Tryz.prog 55 #[.slice A m c, .int .i64 n] w fun e w' => e = .returned (.bool (inR n 0 256 && setB xs n)) ∧ Qt w w' := by
  by_cases h : inR n 0 256 = true
  · have h' := of_decide_eq_true h
    have E := Lib.hid (show (inR n 0 256 && setB xs n) = setB xs n by rw [h]; rfl)
    go_enter Tryz.func55, Tryz.ntmps55
    go_wp2_with (first | (go_at_call 53; refine (l1In _ _ _ _).mono ?_; rintro e w' ⟨rfl, q1, rfl⟩) | (go_at_call 54; refine (l1Set _ _ _ _ _ _ (ha.keep (Qt.keeps ⟨q1, rfl⟩)) (by omega) (by omega)).mono ?_; rintro e w' ⟨rfl, q2, rfl⟩))
    go_ret
    exact ⟨ret_b E.out.symm, _, rfl⟩
  · replace h : inR n 0 256 = false := by simpa using h
    have E := Lib.hid (show (inR n 0 256 && setB xs n) = false by rw [h]; rfl)
    go_enter Tryz.func55, Tryz.ntmps55
    go_wp2_with (first | (go_at_call 53; refine (l1In _ _ _ _).mono ?_; rintro e w' ⟨rfl, q1, rfl⟩))
    go_ret
    exact ⟨ret_b E.out.symm, _, rfl⟩
end Go.Proofs.YtjjaolndencplaaGreat
namespace Go.Proofs.YtjjaolndencplaaGreat
open Go.RowKit

/-- a slice of bytes that reads as a list -/
def RY (w : World) (A : Option Addr) (n c : Nat) (xs : List Int) : Prop :=
  xs.length = n ∧ (n ≤ c ∧ c ≤ 9223372036854775807) ∧ (∀ x ∈ xs, 0 ≤ x ∧ x ≤ 255) ∧ ∀ i, i < n → ∃ b off, A = some ⟨b, off, none⟩ ∧ w.cell? ⟨b, off + i, none⟩ = some (.int .u8 (gi xs i))
section
variable {w w' : World} {A : Option Addr} {n c : Nat} {xs : List Int}
theorem RY.cap (h : RY w A n c xs) : n ≤ c := h.2.1.1
theorem RY.top (h : RY w A n c xs) : c ≤ 9223372036854775807 := h.2.1.2
theorem RY.at_ (h : RY w A n c xs) {i : Nat} (hi : i < n) : ∃ b off, A = some ⟨b, off, none⟩ ∧ w.cell? ⟨b, off + i, none⟩ = some (.int .u8 (gi xs i)) ∧ 0 ≤ gi xs i ∧ gi xs i ≤ 255 := by
  obtain ⟨b, off, e, hc⟩ := h.2.2.2 i hi
  exact ⟨b, off, e, hc, h.2.2.1 _ (gi_mem (by rw [h.1]; exact hi))⟩
theorem RY.keep (h : RY w A n c xs) (k : Keeps w w') : RY w' A n c xs :=
  ⟨h.1, h.2.1, h.2.2.1, fun i hi => by obtain ⟨b, off, e, hc⟩ := h.2.2.2 i hi; exact ⟨b, off, e, k _ _ hc⟩⟩
theorem RY.of_nil : RY w none 0 0 [] := ⟨rfl, ⟨by omega, by omega⟩, by simp, fun i hi => absurd hi (by omega)⟩
theorem RY.of_cells {x : Addr} {len cap : Nat} {zs : List Int} (hl : len ≤ cap) (hm : cap ≤ maxLen) (hz : zs.length = cap)
    (hcell : ∀ i, i < zs.length → w.cell? (x.add i) = some (.int .u8 (zs.getD i 0))) (hr : ∀ z ∈ zs, 0 ≤ z ∧ z ≤ 255) : RY w (some x) len cap (zs.take len) := by
  refine ⟨by rw [List.length_take]; omega, ⟨hl, by unfold maxLen at hm; omega⟩, fun z hz => hr z (List.mem_of_mem_take hz), fun i hi => ?_⟩
  obtain ⟨b, off, spot⟩ := x
  have h0 := hcell 0 (by omega)
  have hs : spot = none := by simpa [Addr.add] using World.cell?_spot h0
  subst hs
  refine ⟨b, off, rfl, ?_⟩
  have hc := hcell i (by omega)
  rw [gi_take hi]
  rw [show (⟨b, off, none⟩ : Addr).add i = ⟨b, off + i, none⟩ from by unfold Addr.add; split <;> simp_all] at hc
  exact hc
end

theorem chg_drewN {S : Nat → Prop} {w w' : World} (h : Chg S w w') (q : Nat) : Chg S w (w'.drewN q) := ⟨h.os, h.tape, h.output, h.size, h.block⟩
/-- the dice lie at block b in w; what they were made of is old in w0 -/
def DiceAt (w0 w : World) (b : Nat) : Prop :=
  ∃ A n c l i h, RY w0 A n c l ∧ Box w b 46 #[.slice A n c, .int .i64 i, .int .u64 h] ∧ (0 ≤ i ∧ i ≤ n ∧ n ≤ 4096) ∧ w0.heap.size ≤ b ∧ Below w0.heap.size w0 w
theorem DiceAt.on {w0 w w' : World} {b : Nat} (h : DiceAt w0 w b) (hb : Below w.heap.size w w') : DiceAt w0 w' b := by
  obtain ⟨A, n, c, l, i, x, h1, h2, h3, h4, h5⟩ := h
  exact ⟨A, n, c, l, i, x, h1, h2.below hb h2.lt, h3, h4, h5.trans (hb.mono h5.size)⟩
theorem DiceAt.chg {w0 w w' : World} {b : Nat} {S : Nat → Prop} (h : DiceAt w0 w b) (hc : Chg S w w') (hS : ∀ x, S x → b < x) : DiceAt w0 w' b := by
  obtain ⟨A, n, c, l, i, x, h1, h2, h3, h4, h5⟩ := h
  exact ⟨A, n, c, l, i, x, h1, (hc.block b h2.lt (fun hs => by have := hS b hs; omega)).trans h2, h3, h4, h5.trans (hc.below h5.size (fun x hx => by have := hS x hx; omega))⟩
theorem DiceAt.lt {w0 w : World} {b : Nat} (h : DiceAt w0 w b) : b < w.heap.size := by
  obtain ⟨A, n, c, l, i, x, h1, h2, h3, h4, h5⟩ := h
  exact h2.lt
theorem DiceAt.lo {w0 w : World} {b : Nat} (h : DiceAt w0 w b) : w0.heap.size ≤ b := by
  obtain ⟨A, n, c, l, i, x, h1, h2, h3, h4, h5⟩ := h
  exact h4
theorem DiceAt.bel {w0 w : World} {b : Nat} (h : DiceAt w0 w b) : Below w0.heap.size w0 w := by
  obtain ⟨A, n, c, l, i, x, h1, h2, h3, h4, h5⟩ := h
  exact h5

/-- a throw -/
def Threw (w0 w : World) (b : Nat) (k : Int) (e : Ending) (w' : World) : Prop := ∃ x, e = .returned (.int .i64 x) ∧ (0 ≤ x ∧ x < k) ∧ DiceAt w0 w' b ∧ Chg (fun y => y = b) w w'

theorem and24 (x : Int) : 0 ≤ bits .and .u64 x 16777215 ∧ bits .and .u64 x 16777215 ≤ 16777215 := by
  show 0 ≤ IntKind.u64.wrap ((BitVec.ofInt 64 x &&& BitVec.ofInt 64 16777215).toNat : Int) ∧ IntKind.u64.wrap ((BitVec.ofInt 64 x &&& BitVec.ofInt 64 16777215).toNat : Int) ≤ 16777215
  have h : (BitVec.ofInt 64 x &&& BitVec.ofInt 64 16777215).toNat ≤ 16777215 := by
    rw [BitVec.toNat_and]
    exact Nat.and_le_right
  rw [IntWalk.u64_in _ (by omega)]
  omega

set_option maxRecDepth 100000 in
set_option maxHeartbeats 400000 in
theorem below (w0 w : World) (b : Nat) (k : Int) (hd : DiceAt w0 w b) (hk : 1 ≤ k) :
    Calls Tryz.prog 11 #[.pointer (some ⟨b, 0, none⟩), .int .i64 k] w (Threw w0 w b k) := by
  obtain ⟨A, n, c, l, i, h, hy, hbx, ⟨hi0, hi1, hn⟩, h4, h5⟩ := hd
  obtain ⟨j, rfl⟩ := Int.eq_ofNat_of_zero_le hi0
  have hjn : j ≤ n := by omega
  have c2 := hbx.cell 2
  have f2 := hbx.hot 2
  simp only [List.getElem?_toArray, List.getElem?_cons_zero, List.getElem?_cons_succ] at c2
  go_enter Tryz.func11, Tryz.ntmps11
  go_wp2_with fail
  generalize IntKind.u64.wrap (IntKind.u64.wrap (h * 6364136223846793005) + 1442695040888963407) = h'
  have hx := and24 (h' / 8589934592)
  generalize bits .and .u64 (h' / 8589934592) 16777215 = x at *
  rw [show wrap64 x = x by unfold wrap64; omega]
  have hb1 := hbx.set_ 2 (.int .u64 h')
  have hg1 : Chg (fun y => y = b) w (w.setCell ⟨b, 2, none⟩ (.int .u64 h')) := Chg.set ⟨b, 2, none⟩ _
  have hw1 : Below w0.heap.size w0 (w.setCell ⟨b, 2, none⟩ (.int .u64 h')) := h5.setCell h4 _
  clear c2 f2 h5 hbx hi0 hi1
  generalize w.setCell ⟨b, 2, none⟩ (.int .u64 h') = w1 at *
  have c0 := hb1.cell 0; have c1 := hb1.cell 1
  have f1 := hb1.hot 1
  simp only [List.setIfInBounds_toArray, List.set_cons_succ, List.set_cons_zero, List.getElem?_toArray, List.getElem?_cons_zero, List.getElem?_cons_succ] at c0 c1
  have hk0 : ¬ k = 0 := by omega
  by_cases hlt : j < n
  · obtain ⟨b', off, rfl, hc, hr⟩ := (hy.keep (keeps_below hw1)).at_ hlt
    generalize gi l j = y at *
    have e1 : wrap64 (x + y) = x + y := by unfold wrap64; omega
    have e2 : wrap64 y = y := by unfold wrap64; omega
    go_quiet (fail)
    go_wp2_with fail
    go_quiet (fail)
    go_wp2_with fail
    go_ret
    have hm := Int.emod_nonneg (x + y) hk0
    have hm2 := Int.emod_lt_of_pos (x + y) (show 0 < k by omega)
    have hb2 := hb1.set_ 1 (.int .i64 ((j : Int) + 1))
    simp only [List.setIfInBounds_toArray, List.set_cons_succ, List.set_cons_zero] at hb2
    exact ⟨_, rfl, ⟨hm, hm2⟩, ⟨_, n, c, l, (j : Int) + 1, h', hy, hb2, ⟨by omega, by omega, hn⟩, h4, (below_drewN hw1 _).setCell h4 _⟩, Chg.trans (chg_drewN hg1 _) (Chg.set (w := w1.drewN _) ⟨b, 1, none⟩ _) (fun _ h => h) (fun _ h => h)⟩
  · go_quiet (fail)
    go_wp2_with fail
    go_ret
    have hm := Int.emod_nonneg x hk0
    have hm2 := Int.emod_lt_of_pos x (show 0 < k by omega)
    simp only [List.setIfInBounds_toArray, List.set_cons_succ, List.set_cons_zero] at hb1
    exact ⟨_, rfl, ⟨hm, hm2⟩, ⟨_, n, c, l, (j : Int), h', hy, hb1, ⟨by omega, by omega, hn⟩, h4, below_drewN hw1 _⟩, chg_drewN hg1 _⟩

set_option maxRecDepth 100000 in
set_option maxHeartbeats 400000 in
theorem roll (A : Option Addr) (n c : Nat) (l : List Int) (sd : Int) (w : World) (hy : RY w A n c l) (hn : n ≤ 4096) :
    Calls Tryz.prog 5 #[.slice A n c, .int .u64 sd] w fun e w' => ∃ b, e = .returned (.pointer (some ⟨b, 0, none⟩)) ∧ DiceAt w w' b := by
  have b1 := hy.cap; have b2 := hy.top
  go_enter Tryz.func5, Tryz.ntmps5
  go_wp2_with fail
  generalize IntKind.u64.wrap _ = h0
  go_loopw [6] (fun i wr => ∃ (j : Nat) (h : Int), j ≤ n ∧ i = .int .i64 j ∧ Box wr w.heap.size 46 #[.slice A n c, .int .i64 0, .int .u64 h] ∧ Below w.heap.size w wr) (fun i _ => n - (intOf i).toNat)
  case atStart => exact ⟨0, _, Nat.zero_le _, rfl, Box.new _ _ _, below_alloc (Nat.le_refl _) (Below.refl _ _)⟩
  case round =>
    obtain ⟨j, h, hj, rfl, hbx, hb⟩ := hrel
    by_cases hlt : j < n
    · obtain ⟨b', off, rfl, hc, hr⟩ := (hy.keep (keeps_below hb)).at_ hlt
      have c2 := hbx.cell 2
      have f2 := hbx.hot 2
      simp only [List.getElem?_toArray, List.getElem?_cons_zero, List.getElem?_cons_succ] at c2
      go_wp2_with fail
      go_still_tail 15, (by kernel_rfl)
      change wpList _ _ _ _ _ wr.drew
      generalize IntKind.u64.wrap (IntKind.u64.wrap (IntKind.u64.wrap (h * 1099511628211) + IntKind.u64.wrap (gi l j)) + 3) = h1
      replace hbx : Box wr.drew _ _ _ := hbx
      replace hb : Below _ _ wr.drew := Below.drew hb
      replace f2 : wr.drew.frozen? _ = false := f2
      replace c2 : wr.drew.cell? _ = some _ := c2
      generalize wr.drew = w2 at *
      go_wp2
      go_roundw
      case rel =>
        have hb2 := hbx.set_ 2 (.int .u64 h1)
        simp only [List.setIfInBounds_toArray, List.set_cons_succ, List.set_cons_zero] at hb2
        exact ⟨j + 1, h1, by omega, by go_num, hb2, hb.setCell (Nat.le_refl _) _⟩
      case measure => simp [intOf]; omega
    · go_wp2
      go_ret
      exact ⟨_, rfl, _, n, c, l, 0, h, hy, hbx, ⟨by omega, by omega, hn⟩, Nat.le_refl _, hb⟩
end Go.Proofs.YtjjaolndencplaaGreat
namespace Go.Proofs.YtjjaolndencplaaGreat
open Go.RowKit

theorem setB_snoc {xs : List Int} {k : Int} (h : setB xs k = true) (h0 : 0 ≤ k) : setB (xs ++ [k]) (k + 1) = true := by
  rw [setB_true] at h ⊢
  have get : ∀ j, j < xs.length → gi (xs ++ [k]) j = gi xs j := fun j hj => by unfold gi; rw [List.getD_eq_getElem?_getD, List.getD_eq_getElem?_getD, List.getElem?_append_left hj]
  intro i hi
  rw [List.length_append, List.length_singleton] at hi
  by_cases e : i < xs.length
  · have := h i e
    unfold setAt at *
    rw [get i e]
    refine ⟨this.1, by omega, fun h0 => ?_⟩
    rw [get (i - 1) (by omega)]
    exact this.2.2 h0
  · obtain rfl : i = xs.length := by omega
    unfold setAt
    rw [show gi (xs ++ [k]) xs.length = k by simp [gi]]
    refine ⟨h0, by omega, fun h0 => ?_⟩
    rw [get (xs.length - 1) (by omega)]
    exact (h (xs.length - 1) (by omega)).2.1
theorem setB_wide {xs : List Int} {k m : Int} (h : setB xs k = true) (hm : k ≤ m) : setB xs m = true := by
  rw [setB_true] at h ⊢
  exact fun i hi => ⟨(h i hi).1, by have := (h i hi).2.1; omega, (h i hi).2.2⟩
theorem setB_none (n : Int) : setB [] n = true := setB_true.2 (by simp)

/-- a set by dice -/
def SetBy (w0 w : World) (b : Nat) (n : Int) (e : Ending) (w' : World) : Prop :=
  ∃ v xs, e = .returned v ∧ setB xs n = true ∧ OI 2 w' w.heap.size v xs ∧ DiceAt w0 w' b ∧ Chg (fun y => y = b) w w'
theorem chg_then {b : Nat} {w w1 w2 : World} (h : Chg (fun y => y = b) w w1) (k : Chg (fun y => y = b) w1 w2) : Chg (fun y => y = b) w w2 := h.trans k (fun _ h => h) (fun _ h => h)
theorem chg_app {b lo : Nat} {u : Value} {w w1 w2 : World} (h : Chg (fun y => y = b) w w1) (hlo : w.heap.size ≤ lo) (k : Chg (fun z => u.ownBlock = some z) w1 w2) (hu : ∀ z, u.ownBlock = some z → lo ≤ z) : Chg (fun y => y = b) w w2 :=
  ⟨k.os.trans h.os, k.tape.trans h.tape, k.output.trans h.output, Nat.le_trans h.size k.size, fun x hx hne =>
    (k.block x (Nat.lt_of_lt_of_le hx h.size) (fun hs => by have := hu x hs; omega)).trans (h.block x hx hne)⟩

set_option maxRecDepth 100000 in
set_option maxHeartbeats 400000 in
theorem w6Set (w0 w : World) (b : Nat) (n : Int) (hd : DiceAt w0 w b) (h0 : 0 ≤ n) (hn : n ≤ 256) :
    Calls Tryz.prog 19 #[.pointer (some ⟨b, 0, none⟩), .int .i64 n] w (SetBy w0 w b n) := by
  obtain ⟨m, rfl⟩ := Int.eq_ofNat_of_zero_le h0
  have hm : m ≤ 256 := by omega
  clear h0 hn
  go_enter Tryz.func19, Tryz.ntmps19
  go_wp2
  have hem := OI.empty (E := 2) (w := w) (B := w.heap.size) (Nat.le_refl _)
  have hal : Below w.heap.size w (w.alloc (.cells #[] 2)) := below_alloc (Nat.le_refl _) (Below.refl _ _)
  go_loopw [5, 6] (fun v i wr => ∃ (k : Nat) (xs : List Int), k ≤ m ∧ i = .int .i64 k ∧ xs.length ≤ k ∧ setB xs (k : Int) = true ∧ OI 2 wr w.heap.size v xs ∧ DiceAt w0 wr b ∧ Chg (fun y => y = b) w wr) (fun _ i _ => m - (intOf i).toNat)
  case atStart => exact ⟨0, [], Nat.zero_le _, rfl, Nat.le_refl _, setB_none _, hem, hd.on hal, (Chg.refl _ _).alloc _⟩
  case round =>
    obtain ⟨k, xs, hk, rfl, hxl, hs, ho, hdr, hc⟩ := hrel
    have HS := Lib.hid hs
    have hsz := hc.size
    clear hs
    by_cases hlt : k < m
    · go_wp2_with fail
      refine (below w0 _ b 3 hdr (by omega)).mono ?_; rintro e w1 ⟨x, rfl, hx, hd1, hc1⟩
      have hc2 := chg_then hc hc1
      have ho1 := ho.chg hc1 (fun z hz hs => by have h1 := (ho.lt z hz).1; have h2 := hd.lt; have h3 : z = b := hs; omega)
      have hsz1 := hc2.size
      by_cases h3 : x = 0
      · subst h3
        go_wp2_with (refine wpList_pushI rfl (.tmp 16) (.tmp 18) rfl _ w.heap.size _ xs rfl ho1 _ rfl (by omega) hsz1 ?_; intro v2 w2 ho2 hb2 hch2 hat2)
        go_wp2
        go_roundw
        case rel => exact ⟨k + 1, xs ++ [(k : Int)], by omega, by go_num, by rw [List.length_append, List.length_singleton]; omega, setB_snoc HS.out (by omega), ho2, hd1.chg hch2 (fun z hz => by have h1 := (ho1.lt z hz).1; have h2 := hd.lt; omega), chg_app hc2 (Nat.le_refl _) hch2 (fun z hz => (ho1.lt z hz).1)⟩
        case measure => simp [intOf]; omega
      · have hx3 : (x == 0) = false := by simp [h3]
        clear h3
        go_wp2
        go_roundw
        case rel => exact ⟨k + 1, xs, by omega, by go_num, by omega, setB_wide HS.out (by omega), ho1, hd1, hc2⟩
        case measure => simp [intOf]; omega
    · obtain rfl : k = m := by omega
      go_wp2
      go_ret
      exact ⟨_, xs, rfl, HS.out, ho, hdr, hc⟩
set_option maxHeartbeats 400000 in
theorem likeInts (A B : Option Addr) (n m c d : Nat) (xs ys : List Int) (w : World) (ha : RI w A n c xs) (hb : RI w B m d ys) :
    Calls Tryz.prog 14 #[.slice A n c, .slice B m d] w fun e w' => e = .returned (.bool (eqL xs ys)) ∧ Qt w w' := by
  have b1 := ha.cap; have b2 := ha.top; have b3 := hb.cap; have b4 := hb.top
  by_cases hnm : n = m
  · subst hnm
    have hnn : ((n : Int) != (n : Int)) = false := by simp
    go_enter Tryz.func14, Tryz.ntmps14
    go_wp2
    go_loopw [5] (fun i wr => ∃ k : Nat, k ≤ n ∧ i = .int .i64 k ∧ (∀ j, j < k → gi xs j = gi ys j) ∧ ∃ q, wr = w.drewN q) (fun i _ => n - (intOf i).toNat)
    case atStart => exact ⟨0, Nat.zero_le _, rfl, by omega, 0, rfl⟩
    case round =>
      obtain ⟨k, hk, rfl, hall, q, rfl⟩ := hrel
      by_cases hlt : k < n
      · obtain ⟨b, off, rfl, hc1⟩ := ha.at_ hlt
        obtain ⟨b', off', rfl, hc2⟩ := hb.at_ hlt
        have hki : (k : Int) < (n : Int) := by omega
        have hk0 : (0 : Int) ≤ (k : Int) := by omega
        by_cases he : gi xs k = gi ys k
        · have H := Lib.hid he
          have hne : (gi xs k != gi ys k) = false := by simp [he]
          clear he
          go_wp2
          go_quiet (fail)
          go_wp2
          go_roundw
          case rel => exact ⟨k + 1, by omega, by go_num, all_succ hall H.out, _, rfl⟩
          case measure => simp [intOf]; omega
        · have H := Lib.hid he
          have hne : (gi xs k != gi ys k) = true := by simp [he]
          clear he
          go_wp2
          go_quiet (fail)
          go_wp2
          go_ret
          exact ⟨ret_b (eqL_ne H.out).symm, Qt.drew2 _ _⟩
      · go_wp2
        go_ret
        obtain rfl : k = n := by omega
        exact ⟨ret_b (eqL_of ha.1 hb.1 hall).symm, _, rfl⟩
  · have hnn : ((n : Int) != (m : Int)) = true := by simp; omega
    have H := Lib.hid hnm
    clear hnm
    go_enter Tryz.func14, Tryz.ntmps14
    go_wp2
    go_ret
    exact ⟨ret_b (eqL_len (by rw [ha.1, hb.1]; exact H.out)).symm, Qt.refl _⟩


theorem w6Has (A : Option Addr) (n c : Nat) (xs : List Int) (x : Int) (w : World) (ha : RI w A n c xs) :
    Calls Tryz.prog 17 #[.slice A n c, .int .i64 x] w fun e w' => e = .returned (.bool (hasL xs x)) ∧ Qt w w' := by
  have b1 := ha.cap; have b2 := ha.top
  go_enter Tryz.func17, Tryz.ntmps17
  go_wp2
  go_loop [5] (fun i => ∃ k : Nat, k ≤ n ∧ i = .int .i64 k ∧ (∀ j, j < k → gi xs j ≠ x)) (fun i => n - (intOf i).toNat)
  case atStart => exact ⟨0, Nat.zero_le _, rfl, by omega⟩
  case round =>
    obtain ⟨k, hk, rfl, hall⟩ := hrel
    by_cases hlt : k < n
    · obtain ⟨b, off, rfl, hc1⟩ := ha.at_ hlt
      by_cases he : gi xs k = x
      · have H := Lib.hid he
        have hne : (gi xs k == x) = true := by simp [he]
        clear he
        go_wp2
        go_ret
        exact ⟨ret_b (hasL_of ha.1 hlt H.out).symm, Qt.refl _⟩
      · have H := Lib.hid he
        have hne : (gi xs k == x) = false := by simp [he]
        clear he
        go_wp2
        go_round
        case rel => exact ⟨k + 1, by omega, by go_num, all_succ hall H.out⟩
        case measure => simp [intOf]; omega
    · go_wp2
      go_ret
      obtain rfl : k = n := by omega
      exact ⟨ret_b (hasL_no ha.1 hall).symm, Qt.refl _⟩
end Go.Proofs.YtjjaolndencplaaGreat
namespace Go.Proofs.YtjjaolndencplaaGreat
open Go.RowKit

abbrev ArD := List Int × List (List Int)
noncomputable def vOk (o : List Int) (n : List (List Int)) (v : Nat) : Bool := inR (gi o v) 0 1 && (decide (1 ≤ (gl n v).length ∧ (gl n v).length ≤ 16) && setB (gl n v) o.length)
noncomputable def arB (o : List Int) (n : List (List Int)) : Bool := decide (1 ≤ o.length ∧ o.length ≤ 256 ∧ n.length = o.length) && (List.range o.length).all (vOk o n)
theorem arB_iff {o : List Int} {n : List (List Int)} : arB o n = true ↔ (1 ≤ o.length ∧ o.length ≤ 256 ∧ n.length = o.length) ∧ ∀ v, v < o.length → vOk o n v = true := by
  unfold arB
  rw [Bool.and_eq_true, List.all_eq_true, decide_eq_true_iff]
  simp [List.mem_range]
theorem vOk_iff {o : List Int} {n : List (List Int)} {v : Nat} : vOk o n v = true ↔ (0 ≤ gi o v ∧ gi o v ≤ 1) ∧ (1 ≤ (gl n v).length ∧ (gl n v).length ≤ 16) ∧ setB (gl n v) o.length = true := by
  unfold vOk inR
  rw [Bool.and_eq_true, Bool.and_eq_true, decide_eq_true_iff, decide_eq_true_iff]
theorem arB_size {o : List Int} {n : List (List Int)} {k : Nat} (hl : o.length = k) (h : ¬ (1 ≤ k ∧ k ≤ 256 ∧ n.length = k)) : arB o n = false := by
  cases e : arB o n with
  | false => rfl
  | true => exact absurd (hl ▸ (arB_iff.1 e).1) h
theorem arB_no {o : List Int} {n : List (List Int)} {k v : Nat} (hl : o.length = k) (hv : v < k) (h : ¬ vOk o n v = true) : arB o n = false := by
  cases e : arB o n with
  | false => rfl
  | true => exact absurd ((arB_iff.1 e).2 v (by omega)) h
theorem arB_of {o : List Int} {n : List (List Int)} {k : Nat} (hl : o.length = k) (h1 : 1 ≤ k ∧ k ≤ 256 ∧ n.length = k) (h : ∀ v, v < k → vOk o n v = true) : arB o n = true := arB_iff.2 ⟨by rw [hl]; exact h1, fun v hv => h v (by omega)⟩
theorem Box.d0 {w : World} {b : Nat} {t : TypeId} {x0 x1 : Value} (h : Box w b t #[x0, x1]) : w.cell? ⟨b, 0, none⟩ = some x0 := h.cell 0
theorem Box.d1 {w : World} {b : Nat} {t : TypeId} {x0 x1 : Value} (h : Box w b t #[x0, x1]) : w.cell? ⟨b, 1, none⟩ = some x1 := h.cell 1

set_option maxRecDepth 100000 in
set_option maxHeartbeats 800000 in
theorem specArenaOk (A0 A1 : Option Addr) (n0 c0 n1 c1 : Nat) (o : List Int) (n : List (List Int)) (w : World) (B : Nat) (hB : B ≤ w.heap.size) (ha : RI w A0 n0 c0 o) (hb : RII w A1 n1 c1 n) :
    Calls Tryz.prog 37 #[.agg #[.slice A0 n0 c0, .slice A1 n1 c1]] w fun e w' => e = .returned (.bool (arB o n)) ∧ Below B w w' := by
  have b1 := ha.cap; have b2 := ha.top; have b3 := hb.cap; have b4 := hb.top
  have HL := Lib.hid ha.len; have HM := Lib.hid hb.len
  have hba : Below w.heap.size w (w.alloc (.cells #[.slice A0 n0 c0, .slice A1 n1 c1] 30)) := below_alloc (Nat.le_refl _) (Below.refl _ _)
  have q0 := (Box.new w 30 #[.slice A0 n0 c0, .slice A1 n1 c1]).d0
  have q1 := (Box.new w 30 #[.slice A0 n0 c0, .slice A1 n1 c1]).d1
  replace ha := ha.keep (keeps_below hba); replace hb := hb.keep (keeps_below hba)
  cases h1 : inR (n0 : Int) 1 256 with
  | false =>
    have E := Lib.hid (arB_size (n := n) HL.out (fun h => by have := of_decide_eq_false h1; omega))
    go_enter Tryz.func37, Tryz.ntmps37
    go_wp2_with (go_at_call 53; refine (l1In _ _ _ _).mono ?_; rintro e w' ⟨rfl, q, rfl⟩)
    go_ret
    exact ⟨ret_b E.out.symm, below_drewN (hba.mono hB) _⟩
  | true =>
    have hn := of_decide_eq_true h1
    by_cases h2 : n1 = n0
    · subst h2
      have hne : ((n1 : Int) != (n1 : Int)) = false := by simp
      have hn1 := hn.1; have hn2 := hn.2
      have HS := Lib.hid (show 1 ≤ n1 ∧ n1 ≤ 256 ∧ n.length = n1 from ⟨by omega, by omega, HM.out⟩)
      go_enter Tryz.func37, Tryz.ntmps37
      go_wp2_with (go_at_call 53; refine (l1In _ _ _ _).mono ?_; rintro e w' ⟨rfl, q, rfl⟩)
      go_loopw [4] (fun i wr => ∃ k : Nat, k ≤ n1 ∧ i = .int .i64 k ∧ (∀ j, j < k → vOk o n j = true) ∧ ∃ q, wr = (w.alloc (.cells #[.slice A0 n1 c0, .slice A1 n1 c1] 30)).drewN q) (fun i _ => n1 - (intOf i).toNat)
      case atStart => exact ⟨0, Nat.zero_le _, rfl, by omega, _, rfl⟩
      case round =>
        obtain ⟨k, hk, rfl, hall, q, rfl⟩ := hrel
        have HA := Lib.hid hall; clear hall
        by_cases hlt : k < n1
        · obtain ⟨bb, off, rfl, hc⟩ := ha.at_ hlt
          obtain ⟨b2, off2, A2, n2, c2, rfl, hc2, r2⟩ := hb.at_ hlt
          have hki : (k : Int) < (n1 : Int) := by omega
          have hk0 : (0 : Int) ≤ (k : Int) := by omega
          have bn2 := r2.cap; have bt2 := r2.top
          have hbad : ¬ vOk o n k = true → arB o n = false := arB_no HL.out hlt
          have HL2 := Lib.hid r2.len
          have HV := Lib.hid (vOk_iff (o := o) (n := n) (v := k))
          cases h3 : inR (gi o k) 0 1 with
          | false =>
            have E := Lib.hid (hbad (fun h => by have h5 := HV.out.1 h; rw [HL2.out] at h5; have := of_decide_eq_false h3; omega))
            clear hbad
            go_wp2_with (first | (go_at_call 53; refine (l1In _ _ _ _).mono ?_; rintro e w' ⟨rfl, q1, rfl⟩))
            go_ret
            exact ⟨ret_b E.out.symm, by first | exact below_drewN (hba.mono hB) _ | exact below_drewN (below_drewN (hba.mono hB) _) _⟩
          | true =>
            have h3v := of_decide_eq_true h3
            by_cases h4 : n2 < 1
            · have h4i : (n2 : Int) < 1 := by omega
              have E := Lib.hid (hbad (fun h => by have h5 := HV.out.1 h; rw [HL2.out] at h5; omega))
              clear hbad
              go_wp2_with (first | (go_at_call 53; refine (l1In _ _ _ _).mono ?_; rintro e w' ⟨rfl, q1, rfl⟩))
              go_ret
              exact ⟨ret_b E.out.symm, by first | exact below_drewN (hba.mono hB) _ | exact below_drewN (below_drewN (hba.mono hB) _) _⟩
            by_cases h5 : 16 < n2
            · have h4i : (1 : Int) ≤ (n2 : Int) := by omega
              have h5i : (16 : Int) < (n2 : Int) := by omega
              have E := Lib.hid (hbad (fun h => by have h5 := HV.out.1 h; rw [HL2.out] at h5; omega))
              clear hbad
              go_wp2_with (first | (go_at_call 53; refine (l1In _ _ _ _).mono ?_; rintro e w' ⟨rfl, q1, rfl⟩))
              go_ret
              exact ⟨ret_b E.out.symm, by first | exact below_drewN (hba.mono hB) _ | exact below_drewN (below_drewN (hba.mono hB) _) _⟩
            have h4i : (1 : Int) ≤ (n2 : Int) := by omega
            have h5i : (n2 : Int) ≤ 16 := by omega
            have HLO := Lib.hid (show (o.length : Int) = (n1 : Int) by rw [HL.out])
            cases h6 : setB (gl n k) (n1 : Int) with
            | false =>
              have E := Lib.hid (hbad (fun h => by have h5 := (HV.out.1 h).2.2; rw [HLO.out, h6] at h5; exact absurd h5 (by simp)))
              clear hbad
              go_wp2_with (first | (go_at_call 53; refine (l1In _ _ _ _).mono ?_; rintro e w' ⟨rfl, q1, rfl⟩) | (go_at_call 54; refine (l1Set _ _ _ (gl n k) _ _ (r2.keep (Qt.keeps ⟨_, rfl⟩)) (by omega) (by omega)).mono ?_; rintro e w' ⟨rfl, q2, rfl⟩))
              go_ret
              exact ⟨ret_b E.out.symm, by first | exact below_drewN (hba.mono hB) _ | exact below_drewN (below_drewN (hba.mono hB) _) _⟩
            | true =>
              have H := Lib.hid (show vOk o n k = true from HV.out.2 ⟨h3v, by rw [HL2.out]; omega, by rw [HLO.out]; exact h6⟩)
              clear hbad
              go_wp2_with (first | (go_at_call 53; refine (l1In _ _ _ _).mono ?_; rintro e w' ⟨rfl, q1, rfl⟩) | (go_at_call 54; refine (l1Set _ _ _ (gl n k) _ _ (r2.keep (Qt.keeps ⟨_, rfl⟩)) (by omega) (by omega)).mono ?_; rintro e w' ⟨rfl, q2, rfl⟩))
              go_roundw
              case rel => exact ⟨k + 1, by omega, by go_num, all_succ HA.out H.out, _, rfl⟩
              case measure => simp [intOf]; omega
        · obtain rfl : k = n1 := by omega
          have E := Lib.hid (arB_of HL.out HS.out HA.out)
          go_wp2
          go_ret
          exact ⟨ret_b E.out.symm, below_drewN (hba.mono hB) _⟩
    · have E := Lib.hid (arB_size (n := n) HL.out (fun h => h2 (by rw [← HM.out]; exact h.2.2)))
      have hne : ((n1 : Int) != (n0 : Int)) = true := by simp; omega
      have hn1 := hn.1; have hn2 := hn.2
      go_enter Tryz.func37, Tryz.ntmps37
      go_wp2_with (go_at_call 53; refine (l1In _ _ _ _).mono ?_; rintro e w' ⟨rfl, q, rfl⟩)
      go_ret
      exact ⟨ret_b E.out.symm, below_drewN (hba.mono hB) _⟩

set_option maxRecDepth 100000 in
set_option maxHeartbeats 800000 in
theorem implArenaOk (A0 A1 : Option Addr) (n0 c0 n1 c1 : Nat) (o : List Int) (n : List (List Int)) (w : World) (B : Nat) (hB : B ≤ w.heap.size) (ha : RI w A0 n0 c0 o) (hb : RII w A1 n1 c1 n) :
    Calls Tryz.prog 20 #[.agg #[.slice A0 n0 c0, .slice A1 n1 c1]] w fun e w' => e = .returned (.bool (arB o n)) ∧ Below B w w' := by
  have b1 := ha.cap; have b2 := ha.top; have b3 := hb.cap; have b4 := hb.top
  have HL := Lib.hid ha.len; have HM := Lib.hid hb.len
  have hba : Below w.heap.size w (w.alloc (.cells #[.slice A0 n0 c0, .slice A1 n1 c1] 30)) := below_alloc (Nat.le_refl _) (Below.refl _ _)
  have q0 := (Box.new w 30 #[.slice A0 n0 c0, .slice A1 n1 c1]).d0
  have q1 := (Box.new w 30 #[.slice A0 n0 c0, .slice A1 n1 c1]).d1
  replace ha := ha.keep (keeps_below hba); replace hb := hb.keep (keeps_below hba)
  by_cases g1 : n0 < 1
  · have E := Lib.hid (arB_size (n := n) HL.out (fun h => by omega))
    have g1i : (n0 : Int) < 1 := by omega
    go_enter Tryz.func20, Tryz.ntmps20
    go_wp2
    go_ret
    exact ⟨ret_b E.out.symm, hba.mono hB⟩
  by_cases g2 : 256 < n0
  · have E := Lib.hid (arB_size (n := n) HL.out (fun h => by omega))
    have g1i : (1 : Int) ≤ (n0 : Int) := by omega
    have g2i : (256 : Int) < (n0 : Int) := by omega
    go_enter Tryz.func20, Tryz.ntmps20
    go_wp2
    go_ret
    exact ⟨ret_b E.out.symm, hba.mono hB⟩
  have hn : (1 : Int) ≤ (n0 : Int) ∧ (n0 : Int) ≤ 256 := by omega
  by_cases h2 : n1 = n0
  · subst h2
    have hne : ((n1 : Int) != (n1 : Int)) = false := by simp
    have hn1 := hn.1; have hn2 := hn.2
    have HS := Lib.hid (show 1 ≤ n1 ∧ n1 ≤ 256 ∧ n.length = n1 from ⟨by omega, by omega, HM.out⟩)
    go_enter Tryz.func20, Tryz.ntmps20
    go_wp2
    go_loopw [25] (fun i wr => ∃ k : Nat, k ≤ n1 ∧ i = .int .i64 k ∧ (∀ j, j < k → vOk o n j = true) ∧ ∃ q, wr = (w.alloc (.cells #[.slice A0 n1 c0, .slice A1 n1 c1] 30)).drewN q) (fun i _ => n1 - (intOf i).toNat)
    case atStart => exact ⟨0, Nat.zero_le _, rfl, by omega, 0, rfl⟩
    case round =>
      obtain ⟨k, hk, rfl, hall, q, rfl⟩ := hrel
      have HA := Lib.hid hall; clear hall
      by_cases hlt : k < n1
      · obtain ⟨bb, off, rfl, hc⟩ := ha.at_ hlt
        obtain ⟨b2, off2, A2, n2, c2, rfl, hc2, r2⟩ := hb.at_ hlt
        have hki : (k : Int) < (n1 : Int) := by omega
        have hk0 : (0 : Int) ≤ (k : Int) := by omega
        have bn2 := r2.cap; have bt2 := r2.top
        have hbad : ¬ vOk o n k = true → arB o n = false := arB_no HL.out hlt
        have HL2 := Lib.hid r2.len
        have HV := Lib.hid (vOk_iff (o := o) (n := n) (v := k))
        by_cases h3a : gi o k < 0
        · 
          have E := Lib.hid (hbad (fun h => by have h5 := HV.out.1 h; rw [HL2.out] at h5; omega))
          clear hbad
          go_wp2
          go_ret
          exact ⟨ret_b E.out.symm, by first | exact below_drewN (hba.mono hB) _ | exact below_drewN (below_drewN (hba.mono hB) _) _⟩
        by_cases h3b : 1 < gi o k
        · 
          have E := Lib.hid (hbad (fun h => by have h5 := HV.out.1 h; rw [HL2.out] at h5; omega))
          clear hbad
          go_wp2
          go_ret
          exact ⟨ret_b E.out.symm, by first | exact below_drewN (hba.mono hB) _ | exact below_drewN (below_drewN (hba.mono hB) _) _⟩
        have h3v : 0 ≤ gi o k ∧ gi o k ≤ 1 := by omega
        have h3c := h3v.1; have h3d := h3v.2
        by_cases h4 : n2 < 1
        · have h4i : (n2 : Int) < 1 := by omega
          have E := Lib.hid (hbad (fun h => by have h5 := HV.out.1 h; rw [HL2.out] at h5; omega))
          clear hbad
          go_wp2
          go_ret
          exact ⟨ret_b E.out.symm, by first | exact below_drewN (hba.mono hB) _ | exact below_drewN (below_drewN (hba.mono hB) _) _⟩
        by_cases h5 : 16 < n2
        · have h4i : (1 : Int) ≤ (n2 : Int) := by omega
          have h5i : (16 : Int) < (n2 : Int) := by omega
          have E := Lib.hid (hbad (fun h => by have h5 := HV.out.1 h; rw [HL2.out] at h5; omega))
          clear hbad
          go_wp2
          go_ret
          exact ⟨ret_b E.out.symm, by first | exact below_drewN (hba.mono hB) _ | exact below_drewN (below_drewN (hba.mono hB) _) _⟩
        have h4i : (1 : Int) ≤ (n2 : Int) := by omega
        have h5i : (n2 : Int) ≤ 16 := by omega
        have HLO := Lib.hid (show (o.length : Int) = (n1 : Int) by rw [HL.out])
        cases h6 : setB (gl n k) (n1 : Int) with
        | false =>
          have E := Lib.hid (hbad (fun h => by have h5 := (HV.out.1 h).2.2; rw [HLO.out, h6] at h5; exact absurd h5 (by simp)))
          clear hbad
          go_wp2_with (first | (go_at_call 46; refine (isSet _ _ _ (gl n k) _ _ (r2.keep (Qt.keeps ⟨_, rfl⟩))).mono ?_; rintro e w' ⟨rfl, q2, rfl⟩))
          go_ret
          exact ⟨ret_b E.out.symm, by first | exact below_drewN (hba.mono hB) _ | exact below_drewN (below_drewN (hba.mono hB) _) _⟩
        | true =>
          have H := Lib.hid (show vOk o n k = true from HV.out.2 ⟨h3v, by rw [HL2.out]; omega, by rw [HLO.out]; exact h6⟩)
          clear hbad
          go_wp2_with (first | (go_at_call 46; refine (isSet _ _ _ (gl n k) _ _ (r2.keep (Qt.keeps ⟨_, rfl⟩))).mono ?_; rintro e w' ⟨rfl, q2, rfl⟩))
          go_roundw
          case rel => exact ⟨k + 1, by omega, by go_num, all_succ HA.out H.out, _, rfl⟩
          case measure => simp [intOf]; omega
      · obtain rfl : k = n1 := by omega
        have E := Lib.hid (arB_of HL.out HS.out HA.out)
        go_wp2
        go_ret
        exact ⟨ret_b E.out.symm, below_drewN (hba.mono hB) _⟩
  · have E := Lib.hid (arB_size (n := n) HL.out (fun h => h2 (by rw [← HM.out]; exact h.2.2)))
    have hne : ((n1 : Int) != (n0 : Int)) = true := by simp; omega
    have hn1 := hn.1; have hn2 := hn.2
    go_enter Tryz.func20, Tryz.ntmps20
    go_wp2
    go_ret
    exact ⟨ret_b E.out.symm, hba.mono hB⟩

theorem implSize (A0 A1 : Option Addr) (n0 c0 n1 c1 : Nat) (w : World) (B : Nat) (hB : B ≤ w.heap.size) (_h : n0 ≤ 9223372036854775807) :
    Calls Tryz.prog 22 #[.agg #[.slice A0 n0 c0, .slice A1 n1 c1]] w fun e w' => e = .returned (.int .i64 (n0 : Int)) ∧ Below B w w' := by
  have q0 := (Box.new w 30 #[.slice A0 n0 c0, .slice A1 n1 c1]).d0
  go_enter Tryz.func22, Tryz.ntmps22
  go_wp2
  go_ret
  exact ⟨rfl, below_alloc hB (Below.refl _ _)⟩
end Go.Proofs.YtjjaolndencplaaGreat
namespace Go.Proofs.YtjjaolndencplaaGreat
open Go.RowKit

end Go.Proofs.YtjjaolndencplaaGreat
namespace Go.Proofs.YtjjaolndencplaaGreat
open Go.RowKit

theorem eqL_self (xs : List Int) : eqL xs xs = true := by simp [eqL]
theorem Box.chg {S : Nat → Prop} {w w' : World} {b : Nat} {t : TypeId} {cs : Array Value} (h : Box w b t cs) (hc : Chg S w w') (hne : ¬ S b) : Box w' b t cs := (hc.block b h.lt hne).trans h

/-- from wb to w no block from lo up to wb's end has changed -/
def Far (lo : Nat) (wb w : World) : Prop := Chg (fun b => ¬ (lo ≤ b ∧ b < wb.heap.size)) wb w
theorem Far.refl (lo : Nat) (w : World) : Far lo w w := Chg.refl _ _
theorem Far.step {lo : Nat} {wb w w' : World} (f : Far lo wb w) (h : Below w.heap.size w w') : Far lo wb w' :=
  Chg.trans f (Chg.of_below h) (fun _ h => h) (fun x hx hs => by have := Chg.size f; omega)
theorem Far.mark {lo lo' hi' : Nat} {wb w w' : World} (f : Far lo wb w) (h : Chg (fun b => lo' ≤ b ∧ b < hi') w w') (hd : hi' ≤ lo ∨ wb.heap.size ≤ lo') : Far lo wb w' :=
  Chg.trans f h (fun _ h => h) (fun x hx hs => by omega)
theorem Far.size {lo : Nat} {wb w : World} (f : Far lo wb w) : wb.heap.size ≤ w.heap.size := Chg.size f
theorem row_hold {E : TypeId} {lo size n : Nat} {v : Value} {cs : List Value} {wb w : World} (h : wb.ownsRow lo E size v n cs) (f : Far lo wb w) : w.ownsRow lo E size v n cs := row_chg h f fun b hb hs => hs (World.ownsRow.lt h b hb)
theorem OI.hold {E : TypeId} {lo : Nat} {v : Value} {xs : List Int} {wb w : World} (h : OI E wb lo v xs) (f : Far lo wb w) : OI E w lo v xs := row_hold h f
theorem OL.hold {E : TypeId} {lo : Nat} {cs : List Value} {g : Nat → List Int} {wb w : World} (h : OL E wb lo cs g) (f : Far lo wb w) : OL E w lo cs g := fun i hi => (h i hi).hold f
theorem OAr.hold {lo : Nat} {s0 s1 : Value} {cs : List Value} {o : List Int} {n : List (List Int)} {wb w : World} (h : OAr wb lo s0 s1 cs o n) (f : Far lo wb w) : OAr w lo s0 s1 cs o n := ⟨h.1.hold f, row_hold h.2.1 f, h.2.2.hold f⟩
theorem OPar.hold {lo : Nat} {s0 s1 s2 : Value} {g : ParD} {wb w : World} (h : OPar wb lo s0 s1 s2 g) (f : Far lo wb w) : OPar w lo s0 s1 s2 g := by
  obtain ⟨cs, h1, h2, h3⟩ := h
  exact ⟨cs, h1.hold f, h2.hold f, h3⟩

end Go.Proofs.YtjjaolndencplaaGreat
namespace Go.Proofs.YtjjaolndencplaaGreat
open Go.RowKit

end Go.Proofs.YtjjaolndencplaaGreat
namespace Go.Proofs.YtjjaolndencplaaGreat
open Go.RowKit

theorem infoB : (Tryz.prog.info? 4).map (fun i => (i.zero, i.size, i.bytes)) = some (some (.bool false), 1, 1) := by kernel_rfl
end Go.Proofs.YtjjaolndencplaaGreat
namespace Go.Proofs.YtjjaolndencplaaGreat
open Go.RowKit

end Go.Proofs.YtjjaolndencplaaGreat
namespace Go.Proofs.YtjjaolndencplaaGreat
open Go.RowKit

theorem RAv.ri {w : World} {A0 A1 : Option Addr} {n0 c0 n1 c1 : Nat} {o : List Int} {n : List (List Int)} (h : RAv w (.slice A0 n0 c0) (.slice A1 n1 c1) o n) : RI w A0 n0 c0 o := by
  obtain ⟨⟨A, m, c, e, hr⟩, _⟩ := h
  injection e with e1 e2 e3
  subst e1; subst e2; subst e3
  exact hr
theorem RAv.rii {w : World} {A0 A1 : Option Addr} {n0 c0 n1 c1 : Nat} {o : List Int} {n : List (List Int)} (h : RAv w (.slice A0 n0 c0) (.slice A1 n1 c1) o n) : RII w A1 n1 c1 n := by
  obtain ⟨_, A, m, c, e, hr⟩ := h
  injection e with e1 e2 e3
  subst e1; subst e2; subst e3
  exact hr
theorem RAv.form {w : World} {s0 s1 : Value} {o : List Int} {n : List (List Int)} (h : RAv w s0 s1 o n) : ∃ A0 n0 c0 A1 n1 c1, s0 = .slice A0 n0 c0 ∧ s1 = .slice A1 n1 c1 := by
  obtain ⟨⟨A, m, c, e, _⟩, A', m', c', e', _⟩ := h
  exact ⟨A, m, c, A', m', c', e, e'⟩
theorem RAv.of {w : World} {A0 A1 : Option Addr} {n0 c0 n1 c1 : Nat} {o : List Int} {n : List (List Int)} (h : RI w A0 n0 c0 o) (k : RII w A1 n1 c1 n) : RAv w (.slice A0 n0 c0) (.slice A1 n1 c1) o n := ⟨⟨_, _, _, rfl, h⟩, _, _, _, rfl, k⟩
/-- an arena of the call's own -/
def OArn (w : World) (lo : Nat) (s0 s1 : Value) (z : ArD) : Prop := ∃ cs, OAr w lo s0 s1 cs z.1 z.2 ∧ Dis (s0 :: cs)
section
variable {w w' wb : World} {lo lo' : Nat} {s0 s1 : Value} {z : ArD}
theorem OArn.form (h : OArn w lo s0 s1 z) : ∃ A0 c0 A1 c1, s0 = .slice A0 z.1.length c0 ∧ s1 = .slice A1 z.2.length c1 := by
  obtain ⟨cs, ⟨h0, h1, _⟩, _⟩ := h
  obtain ⟨A0, c0, e0⟩ := h0.form
  obtain ⟨A1, c1, e1, _⟩ := row_form h1
  exact ⟨A0, c0, A1, c1, e0, e1⟩
theorem OArn.reads (h : OArn w lo s0 s1 z) : RAv w s0 s1 z.1 z.2 := by
  obtain ⟨cs, h, _⟩ := h
  exact h.reads
theorem OArn.hold (h : OArn wb lo s0 s1 z) (f : Far lo wb w) : OArn w lo s0 s1 z := by
  obtain ⟨cs, h, hd⟩ := h
  exact ⟨cs, h.hold f, hd⟩
theorem OArn.below (h : OArn w lo s0 s1 z) (hb : Below w.heap.size w w') : OArn w' lo s0 s1 z := by
  obtain ⟨cs, h, hd⟩ := h
  exact ⟨cs, h.below hb, hd⟩
theorem OArn.more (h : OArn w lo s0 s1 z) (hl : lo' ≤ lo) : OArn w lo' s0 s1 z := by
  obtain ⟨cs, h, hd⟩ := h
  exact ⟨cs, h.more hl, hd⟩
end

/-! ### sizes -/
/-! ### copies -/
theorem infoII' : (Tryz.prog.info? 27).map (fun i => (i.zero, i.size, i.bytes)) = some (some (.slice none 0 0), 1, 24) := by kernel_rfl
theorem made_row (n : Nat) : (madeCells (Value.slice none 0 0).cells (n * 1)).toList = List.replicate n (.slice none 0 0) := by
  rw [show (Value.slice none 0 0).cells = #[Value.slice none 0 0] from rfl, Nat.mul_one, toList_madeCells_one]
end Go.Proofs.YtjjaolndencplaaGreat
namespace Go.Proofs.YtjjaolndencplaaGreat
open Go.RowKit

theorem firstI_neg {p : Nat → Bool} : ∀ {n : Nat}, firstI p n = -1 → ∀ j, j < n → p j = false
  | 0, _, j, hj => absurd hj (by omega)
  | n + 1, h, j, hj => by
    by_cases e : firstI p n = -1
    · rw [firstI, if_pos e] at h
      by_cases e2 : p n = true
      · rw [if_pos e2] at h; omega
      · rcases Nat.lt_or_ge j n with h3 | h3
        · exact firstI_neg e j h3
        · obtain rfl : j = n := by omega
          simpa using e2
    · rw [firstI, if_neg e] at h; exact absurd h e
theorem firstI_ge (p : Nat → Bool) (n : Nat) : -1 ≤ firstI p n := by
  induction n with
  | zero => simp [firstI]
  | succ n ih => unfold firstI; split <;> (try split) <;> omega
theorem slIndex (A : Option Addr) (n c : Nat) (xs : List Int) (x : Int) (w : World) (ha : RI w A n c xs) :
    Calls Tryz.prog 75 #[.slice A n c, .int .i64 x] w fun e w' => e = .returned (.int .i64 (firstI (fun i => gi xs i == x) n)) ∧ Qt w w' := by
  have b1 := ha.cap; have b2 := ha.top
  go_enter Tryz.func75, Tryz.ntmps75
  go_wp2
  go_loop [8] (fun i => ∃ k : Nat, k ≤ n ∧ i = .int .i64 k ∧ (∀ j, j < k → (gi xs j == x) = false)) (fun i => n - (intOf i).toNat)
  case atStart => exact ⟨0, Nat.zero_le _, rfl, by omega⟩
  case round =>
    obtain ⟨k, hk, rfl, hall⟩ := hrel
    have HA := Lib.hid hall
    clear hall
    by_cases hlt : k < n
    · obtain ⟨b, off, rfl, hc1⟩ := ha.at_ hlt
      by_cases he : (gi xs k == x) = true
      · have E := Lib.hid (firstI_hit (p := fun i => gi xs i == x) (n := n) he HA.out hlt)
        have he2 : (x == gi xs k) = true := by rw [beq_iff_eq] at he ⊢; exact he.symm
        clear he
        go_wp2
        go_ret
        exact ⟨ret_i E.out.symm, Qt.refl _⟩
      · have he1 : (gi xs k == x) = false := by simpa using he
        have H := Lib.hid he1
        have he2 : (x == gi xs k) = false := by rw [beq_eq_false_iff_ne] at he1 ⊢; exact fun h => he1 h.symm
        clear he he1
        go_wp2
        go_round
        case rel => exact ⟨k + 1, by omega, by go_num, all_succ HA.out H.out⟩
        case measure => simp [intOf]; omega
    · obtain rfl : k = n := by omega
      have E := Lib.hid (firstI_none (p := fun i => gi xs i == x) HA.out)
      go_wp2
      go_ret
      exact ⟨ret_i E.out.symm, Qt.refl _⟩

theorem slContains (A : Option Addr) (n c : Nat) (xs : List Int) (x : Int) (w : World) (ha : RI w A n c xs) :
    Calls Tryz.prog 62 #[.slice A n c, .int .i64 x] w fun e w' => e = .returned (.bool (hasL xs x)) ∧ Qt w w' := by
  have b1 := ha.cap; have b2 := ha.top
  have hv : hasL xs x = decide (0 ≤ firstI (fun i => gi xs i == x) n) := by
    by_cases h : hasL xs x = true
    · obtain ⟨i, hi, e⟩ := mem_gi (of_decide_eq_true h)
      have h1 : ¬ firstI (fun i => gi xs i == x) n = -1 := by
        intro h2
        have := firstI_neg h2 i (by rw [← ha.len]; exact hi)
        simp [e] at this
      have := firstI_ge (fun i => gi xs i == x) n
      rw [h, decide_eq_true (by omega)]
    · have h' : hasL xs x = false := by simpa using h
      rw [h', firstI_none (fun j hj => by
        have := of_decide_eq_false h'
        simp only [beq_eq_false_iff_ne, ne_eq]
        rintro rfl
        exact this (gi_mem (by rw [ha.len]; exact hj)))]
      rfl
  have HV := Lib.hid hv
  clear hv
  have H := slIndex A n c xs x w ha
  revert H
  generalize firstI (fun i => gi xs i == x) n = r at HV ⊢
  intro H
  go_enter Tryz.func62, Tryz.ntmps62
  go_wp2_with fail
  refine H.mono ?_; rintro e w' ⟨rfl, q, rfl⟩
  go_wp2
  go_ret
  exact ⟨ret_b (by rw [HV.out]), Qt.drewN _⟩

theorem cmpNaN (x : Int) (w : World) : Calls Tryz.prog 80 #[.int .i64 x] w fun e w' => e = .returned (.bool false) ∧ Qt w w' := by
  have hne : (x != x) = false := by simp
  go_enter Tryz.func80, Tryz.ntmps80
  go_wp2
  go_ret
  exact ⟨rfl, Qt.refl _⟩
theorem slNaN (x : Int) (w : World) : Calls Tryz.prog 71 #[.int .i64 x] w fun e w' => e = .returned (.bool false) ∧ Qt w w' := by
  have hne : (x != x) = false := by simp
  go_enter Tryz.func71, Tryz.ntmps71
  go_wp2
  go_ret
  exact ⟨rfl, Qt.refl _⟩
def ltB (x y : Int) : Bool := decide (x < y)
theorem cmpLess (x y : Int) (w : World) : Calls Tryz.prog 70 #[.int .i64 x, .int .i64 y] w fun e w' => e = .returned (.bool (ltB x y)) ∧ Qt w w' := by
  have E := Lib.hid (show ltB x y = decide (x < y) from rfl)
  go_enter Tryz.func70, Tryz.ntmps70
  go_wp2_with (go_at_call 80; refine (cmpNaN _ _).mono ?_; rintro e w' ⟨rfl, q, rfl⟩)
  go_ret
  exact ⟨ret_b E.out.symm, Qt.drewN _⟩

/-- at the loop's end: all below place i are less than x, all from i on are not -/
theorem has_at {xs : List Int} {x : Int} {n i : Nat} (hl : xs.length = n) (hs : ∀ i j, i < j → j < xs.length → gi xs i < gi xs j) (hi : i ≤ n) (h1 : ∀ j, j < i → gi xs j < x) (h2 : ∀ j, i ≤ j → j < n → x ≤ gi xs j) : hasL xs x = true ↔ (i < n ∧ gi xs i = x) := by
  constructor
  · intro h
    obtain ⟨j, hj, rfl⟩ := mem_gi (of_decide_eq_true h)
    have hij : i ≤ j := by
      rcases Nat.lt_or_ge j i with h3 | h3
      · have := h1 j h3; omega
      · exact h3
    by_cases e : i = j
    · subst e; exact ⟨by omega, rfl⟩
    · have := hs i j (by omega) hj
      have := h2 i (Nat.le_refl _) (by omega)
      omega
  · rintro ⟨h3, rfl⟩
    exact decide_eq_true (gi_mem (by omega))

set_option maxHeartbeats 800000 in
theorem slBinary (A : Option Addr) (n c : Nat) (xs : List Int) (x : Int) (w : World) (ha : RI w A n c xs) (hs : ∀ i j, i < j → j < xs.length → gi xs i < gi xs j) (hn : n ≤ 1048576) :
    Calls Tryz.prog 49 #[.slice A n c, .int .i64 x] w fun e w' => ∃ i : Int, e = .returned (.tuple #[.int .i64 i, .bool (hasL xs x)]) ∧ Qt w w' := by
  have b1 := ha.cap; have b2 := ha.top
  have HS := Lib.hid hs
  have HL := Lib.hid ha.len
  clear hs
  go_enter Tryz.func49, Tryz.ntmps49
  go_wp2
  go_loopw [7, 8, 9] (fun i j _ wr => ∃ k l : Nat, k ≤ l ∧ l ≤ n ∧ i = .int .i64 k ∧ j = .int .i64 l ∧ (∀ t, t < k → gi xs t < x) ∧ (∀ t, l ≤ t → t < n → x ≤ gi xs t) ∧ ∃ q, wr = w.drewN q) (fun i j _ _ => (intOf j).toNat - (intOf i).toNat)
  case atStart => exact ⟨0, n, by omega, by omega, rfl, rfl, by omega, by omega, 0, rfl⟩
  case round =>
    obtain ⟨k, l, hkl, hl, rfl, rfl, h1, h2, q, rfl⟩ := hrel
    have H1 := Lib.hid h1
    have H2 := Lib.hid h2
    clear h1 h2
    by_cases hlt : k < l
    · have hmid : (k + l) / 2 < n := by omega
      obtain ⟨b, off, rfl, hc1⟩ := ha.at_ hmid
      by_cases hle : ltB (gi xs ((k + l) / 2)) x = true
      · have HP := Lib.hid (of_decide_eq_true hle)
        go_wp2_with (go_at_call 70; refine (cmpLess _ _ _).mono ?_; rintro e w' ⟨rfl, q2, rfl⟩)
        go_roundw
        case rel =>
          refine ⟨(k + l) / 2 + 1, l, by omega, hl, by go_num, rfl, fun t ht => ?_, H2.out, _, rfl⟩
          rcases Nat.lt_or_ge t ((k + l) / 2) with h | h
          · have := HS.out t ((k + l) / 2) h (by rw [HL.out]; exact hmid)
            have := HP.out
            omega
          · obtain rfl : t = (k + l) / 2 := by omega
            exact HP.out
        case measure => simp [intOf]; omega
      · have hle' : ltB (gi xs ((k + l) / 2)) x = false := by simpa using hle
        have HP := Lib.hid (of_decide_eq_false hle')
        clear hle
        go_wp2_with (go_at_call 70; refine (cmpLess _ _ _).mono ?_; rintro e w' ⟨rfl, q2, rfl⟩)
        go_roundw
        case rel =>
          refine ⟨k, (k + l) / 2, by omega, by omega, rfl, by go_num, H1.out, fun t ht1 ht2 => ?_, _, rfl⟩
          rcases Nat.eq_or_lt_of_le ht1 with h | h
          · subst h; have := HP.out; omega
          · have := HS.out ((k + l) / 2) t h (by rw [HL.out]; exact ht2)
            have := HP.out
            omega
        case measure => simp [intOf]; omega
    · obtain rfl : k = l := by omega
      have hiff := has_at HL.out HS.out hl H1.out H2.out
      by_cases hkn : k < n
      · obtain ⟨b, off, rfl, hc1⟩ := ha.at_ hkn
        have hd : decide ((k : Int) < (n : Int)) = true := by simpa using hkn
        by_cases he : gi xs k = x
        · have E := Lib.hid (hiff.2 ⟨hkn, he⟩)
          have he2 : (gi xs k == x) = true := by simpa using he
          clear he hiff
          go_wp2_with (go_at_call 71; refine (slNaN _ _).mono ?_; rintro e w' ⟨rfl, q2, rfl⟩)
          go_ret2
          exact ⟨(k : Int), by rw [E.out]; rfl, _, rfl⟩
        · have E := Lib.hid (show hasL xs x = false by cases h : hasL xs x with
            | false => rfl
            | true => exact absurd (hiff.1 h).2 he)
          have he2 : (gi xs k == x) = false := by simpa using he
          clear he hiff
          go_wp2_with (go_at_call 71; refine (slNaN _ _).mono ?_; rintro e w' ⟨rfl, q2, rfl⟩)
          go_ret2
          exact ⟨(k : Int), by rw [E.out]; rfl, _, rfl⟩
      · have E := Lib.hid (show hasL xs x = false by cases h : hasL xs x with
          | false => rfl
          | true => exact absurd (hiff.1 h).1 hkn)
        have hd : decide ((k : Int) < (n : Int)) = false := by simpa using hkn
        clear hiff
        go_wp2_with (go_at_call 71; refine (slNaN _ _).mono ?_; rintro e w' ⟨rfl, q2, rfl⟩)
        go_ret2
        exact ⟨(k : Int), by rw [E.out]; rfl, _, rfl⟩
end Go.Proofs.YtjjaolndencplaaGreat
namespace Go.Proofs.YtjjaolndencplaaGreat
open Go.RowKit

/-- what the loop 'for i < k: if p i then append f i' has built -/
def pick (p : Nat → Bool) (f : Nat → Int) : Nat → List Int
  | 0 => []
  | k + 1 => if p k = true then pick p f k ++ [f k] else pick p f k
theorem pick_yes {p : Nat → Bool} {f : Nat → Int} {k : Nat} (h : p k = true) : pick p f (k + 1) = pick p f k ++ [f k] := by simp [pick, h]
theorem pick_no {p : Nat → Bool} {f : Nat → Int} {k : Nat} (h : p k = false) : pick p f (k + 1) = pick p f k := by simp [pick, h]
theorem pick_len (p : Nat → Bool) (f : Nat → Int) (k : Nat) : (pick p f k).length ≤ k := by
  induction k with
  | zero => simp [pick]
  | succ k ih =>
    unfold pick
    split
    · simp; omega
    · omega
theorem mem_pick {p : Nat → Bool} {f : Nat → Int} {n : Nat} {x : Int} : x ∈ pick p f n ↔ ∃ i, i < n ∧ p i = true ∧ f i = x := by
  induction n with
  | zero => simp [pick]
  | succ n ih =>
    by_cases e : p n = true
    · rw [pick_yes e, List.mem_append, ih]
      constructor
      · rintro (⟨i, hi, h⟩ | h)
        · exact ⟨i, by omega, h⟩
        · simp at h
          exact ⟨n, by omega, e, h.symm⟩
      · rintro ⟨i, hi, h1, h2⟩
        by_cases hin : i = n
        · subst hin; right; simp [h2]
        · left; exact ⟨i, by omega, h1, h2⟩
    · have e' : p n = false := by simpa using e
      rw [pick_no e', ih]
      constructor
      · rintro ⟨i, hi, h⟩; exact ⟨i, by omega, h⟩
      · rintro ⟨i, hi, h1, h2⟩
        have : i ≠ n := fun e2 => by subst e2; simp [h1] at e'
        exact ⟨i, by omega, h1, h2⟩
theorem pick_all {p : Nat → Bool} {f : Nat → Int} {n : Nat} (h : ∀ i, i < n → p i = true) : (pick p f n).length = n := by
  induction n with
  | zero => rfl
  | succ n ih => rw [pick_yes (h n (by omega)), List.length_append, ih fun i hi => h i (by omega)]; rfl
theorem pick_short {p : Nat → Bool} {f : Nat → Int} {n i : Nat} (hi : i < n) (h : p i = false) : (pick p f n).length < n := by
  induction n with
  | zero => omega
  | succ n ih =>
    have := pick_len p f n
    by_cases e : i = n
    · subst e; rw [pick_no h]; omega
    · have ih' := ih (by omega)
      by_cases e2 : p n = true
      · rw [pick_yes e2, List.length_append]; simp; omega
      · rw [pick_no (by simpa using e2)]; omega

/-- the elements of a that b lacks -/
def lessUp (a b : List Int) (k : Nat) : List Int := pick (fun i => !hasL b (gi a i)) (gi a) k
def lessL (a b : List Int) : List Int := lessUp a b a.length
/-- whether the two have an element in common -/
def meetB (a b : List Int) : Bool := decide (∃ x, x ∈ a ∧ x ∈ b)
theorem meetB_comm (a b : List Int) : meetB a b = meetB b a := by
  unfold meetB
  exact decide_eq_decide.2 ⟨fun ⟨x, h1, h2⟩ => ⟨x, h2, h1⟩, fun ⟨x, h1, h2⟩ => ⟨x, h2, h1⟩⟩
theorem lessL_meet (a b : List Int) : decide ((lessL a b).length < a.length) = meetB a b := by
  unfold lessL lessUp meetB
  refine decide_eq_decide.2 ⟨fun h => ?_, fun ⟨x, h1, h2⟩ => ?_⟩
  · by_cases e : ∃ i, i < a.length ∧ hasL b (gi a i) = true
    · obtain ⟨i, hi, e⟩ := e
      exact ⟨gi a i, gi_mem hi, of_decide_eq_true e⟩
    · have := pick_all (p := fun i => !hasL b (gi a i)) (f := gi a) (n := a.length) (fun i hi => by
        have : hasL b (gi a i) = false := by
          by_cases e3 : hasL b (gi a i) = true
          · exact absurd ⟨i, hi, e3⟩ e
          · simpa using e3
        simp [this])
      omega
  · obtain ⟨i, hi, rfl⟩ := mem_gi h1
    exact pick_short hi (by have : hasL b (gi a i) = true := decide_eq_true h2
                            simp [this])
theorem lessL_len (a b : List Int) : (lessL a b).length ≤ a.length := pick_len _ _ _
/-- 0, 1, .. n - 1 -/
def allL (n : Nat) : List Int := pick (fun _ => true) (fun i => (i : Int)) n
theorem allL_len (n : Nat) : (allL n).length = n := pick_all fun _ _ => rfl
theorem allL_succ (n : Nat) : allL (n + 1) = allL n ++ [(n : Int)] := pick_yes rfl
theorem gi_all {n i : Nat} (h : i < n) : gi (allL n) i = (i : Int) := by
  induction n with
  | zero => omega
  | succ n ih =>
    rw [allL_succ]
    unfold gi
    by_cases e : i = n
    · subst e
      rw [List.getD_eq_getElem?_getD, List.getElem?_append_right (by rw [allL_len]; omega), allL_len]
      simp
    · have := ih (by omega)
      unfold gi at this
      rw [List.getD_eq_getElem?_getD, List.getElem?_append_left (by rw [allL_len]; omega), ← List.getD_eq_getElem?_getD]
      exact this
end Go.Proofs.YtjjaolndencplaaGreat
namespace Go.Proofs.YtjjaolndencplaaGreat
open Go.RowKit

/-- rising numbers: what BinarySearch asks -/
def rises (xs : List Int) : Prop := ∀ i j, i < j → j < xs.length → gi xs i < gi xs j
theorem rises_set {xs : List Int} {n : Int} (h : setB xs n = true) : rises xs := by
  have h' := setB_true.1 h
  intro i j hij hj
  induction j with
  | zero => omega
  | succ j ih =>
    have h2 := (h' (j + 1) hj).2.2 (by omega)
    rw [show j + 1 - 1 = j from rfl] at h2
    by_cases e : i = j
    · subst e; exact h2
    · have := ih (by omega) (by omega); omega
theorem less_at {a b : List Int} {k : Nat} (_h : k < a.length) : lessUp a b (k + 1) = if hasL b (gi a k) = true then lessUp a b k else lessUp a b k ++ [gi a k] := by
  unfold lessUp
  by_cases e : hasL b (gi a k) = true
  · rw [if_pos e, pick_no (by rw [e]; rfl)]
  · rw [if_neg e, pick_yes (by simpa using e)]

set_option maxRecDepth 100000 in
set_option maxHeartbeats 400000 in
theorem lessOf (A C : Option Addr) (n c m d : Nat) (a b : List Int) (w : World) (B : Nat) (hB : B ≤ w.heap.size) (ha : RI w A n c a) (hb : RI w C m d b) (hs : rises b) (hn : n ≤ 1048576) (hm : m ≤ 1048576) :
    Calls Tryz.prog 24 #[.slice A n c, .slice C m d] w fun e w' => ∃ v, e = .returned v ∧ OI 2 w' B v (lessL a b) ∧ Below B w w' := by
  have b1 := ha.cap; have b2 := ha.top; have b3 := hb.cap; have b4 := hb.top
  have hl := ha.len
  have HL := Lib.hid hl
  clear hl
  go_enter Tryz.func24, Tryz.ntmps24
  go_wp2
  go_loopw [5, 13] (fun v i wr => ∃ k : Nat, k ≤ n ∧ i = .int .i64 k ∧ OI 2 wr w.heap.size v (lessUp a b k) ∧ Below w.heap.size w wr) (fun _ i _ => n - (intOf i).toNat)
  case atStart => exact ⟨0, Nat.zero_le _, rfl, OI.empty (Nat.le_refl _), by repeat (first | with_reducible assumption | with_reducible exact Below.refl _ _ | with_reducible refine below_drewN ?_ _ | with_reducible refine Below.drew ?_ | with_reducible refine below_alloc (Nat.le_refl _) ?_)⟩
  case round =>
    obtain ⟨k, hk, rfl, ho, hbr⟩ := hrel
    have hup : (lessUp a b k).length ≤ k := pick_len _ _ _
    have hsz := hbr.size
    by_cases hlt : k < n
    · obtain ⟨bb, off, rfl, hc⟩ := (ha.keep (keeps_below hbr)).at_ hlt
      have hb' := hb.keep (keeps_below hbr)
      have hx := less_at (a := a) (b := b) (k := k) (by rw [HL.out]; exact hlt)
      by_cases hp : hasL b (gi a k) = true
      · rw [if_pos hp] at hx
        have HX := Lib.hid hx
        clear hx
        go_wp2_with fail
        refine (slBinary _ _ _ _ _ _ hb' hs hm).mono ?_; rintro e w' ⟨i, rfl, q, rfl⟩
        go_wp2
        go_roundw
        case rel => exact ⟨k + 1, by omega, by go_num, by rw [HX.out]; exact ho.drewN _, below_drewN hbr _⟩
        case measure => simp [intOf]; omega
      · rw [if_neg hp] at hx
        have HX := Lib.hid hx
        have hp' : hasL b (gi a k) = false := by simpa using hp
        clear hx hp
        go_wp2_with fail
        refine (slBinary _ _ _ _ _ _ hb' hs hm).mono ?_; rintro e w' ⟨i, rfl, q, rfl⟩
        go_wp2_with (refine wpList_pushI rfl (.tmp 25) (.tmp 27) rfl _ _ _ (lessUp a b k) rfl (ho.drewN _) _ rfl (by omega) hsz ?_; intro v2 w2 ho2 hb2 hc2 hat2)
        go_wp2
        go_roundw
        case rel => exact ⟨k + 1, by omega, by go_num, by rw [HX.out]; exact ho2, (below_drewN hbr _).trans hb2⟩
        case measure => simp [intOf]; omega
    · obtain rfl : k = n := by omega
      have HE := Lib.hid (show lessUp a b k = lessL a b by rw [← HL.out]; rfl)
      go_wp2
      go_ret
      exact ⟨_, rfl, by rw [← HE.out]; exact ho.more hB, hbr.mono hB⟩

set_option maxRecDepth 100000 in
theorem AllOf (n : Int) (w : World) (B : Nat) (hB : B ≤ w.heap.size) (h0 : 0 ≤ n) (h1 : n ≤ 256) :
    Calls Tryz.prog 50 #[.int .i64 n] w fun e w' => ∃ v, e = .returned v ∧ OI 2 w' B v (allL n.toNat) ∧ Below B w w' := by
  obtain ⟨N, rfl⟩ : ∃ N : Nat, n = (N : Int) := ⟨n.toNat, by omega⟩
  go_enter Tryz.func50, Tryz.ntmps50
  go_wp2
  go_loopw [3, 4] (fun v i wr => ∃ k : Nat, k ≤ N ∧ i = .int .i64 k ∧ OI 2 wr w.heap.size v (allL k) ∧ Below w.heap.size w wr) (fun _ i _ => N - (intOf i).toNat)
  case atStart => exact ⟨0, Nat.zero_le _, rfl, OI.empty (Nat.le_refl _), by repeat (first | with_reducible assumption | with_reducible exact Below.refl _ _ | with_reducible refine below_drewN ?_ _ | with_reducible refine Below.drew ?_ | with_reducible refine below_alloc (Nat.le_refl _) ?_)⟩
  case round =>
    obtain ⟨k, hk, rfl, ho, hbr⟩ := hrel
    have hup : (allL k).length ≤ k := pick_len _ _ _
    have hsz := hbr.size
    by_cases hlt : k < N
    · have HX := Lib.hid (allL_succ k)
      go_wp2_with (refine wpList_pushI rfl (.tmp 17) (.tmp 19) rfl _ _ _ (allL k) rfl ho _ rfl (by omega) hsz ?_; intro v2 w2 ho2 hb2 hc2 hat2)
      go_wp2
      go_roundw
      case rel => exact ⟨k + 1, by omega, by go_num, by rw [HX.out]; exact ho2, hbr.trans hb2⟩
      case measure => simp [intOf]; omega
    · obtain rfl : k = N := by omega
      go_wp2
      go_ret
      exact ⟨_, rfl, by rw [Int.toNat_natCast]; exact ho.more hB, hbr.mono hB⟩
end Go.Proofs.YtjjaolndencplaaGreat
namespace Go.Proofs.YtjjaolndencplaaGreat
open Go.RowKit

/-- a slice of bool that reads as a list -/
def RB (w : World) (A : Option Addr) (n c : Nat) (xs : List Bool) : Prop :=
  xs.length = n ∧ (n ≤ c ∧ c ≤ 9223372036854775807) ∧ ∀ i, i < n → ∃ b off, A = some ⟨b, off, none⟩ ∧ w.cell? ⟨b, off + i, none⟩ = some (.bool (gb xs i))
section
variable {w w' : World} {A : Option Addr} {n c : Nat} {xs : List Bool}
theorem RB.len (h : RB w A n c xs) : xs.length = n := h.1
theorem RB.cap (h : RB w A n c xs) : n ≤ c := h.2.1.1
theorem RB.top (h : RB w A n c xs) : c ≤ 9223372036854775807 := h.2.1.2
theorem RB.at_ (h : RB w A n c xs) {i : Nat} (hi : i < n) : ∃ b off, A = some ⟨b, off, none⟩ ∧ w.cell? ⟨b, off + i, none⟩ = some (.bool (gb xs i)) := h.2.2 i hi
theorem RB.keep (h : RB w A n c xs) (k : Keeps w w') : RB w' A n c xs :=
  ⟨h.1, h.2.1, fun i hi => by obtain ⟨b, off, e, hc⟩ := h.2.2 i hi; exact ⟨b, off, e, k _ _ hc⟩⟩
end
section
variable {E : TypeId} {w w' : World} {lo : Nat} {v : Value} {xs : List Bool}
theorem OB.form (h : OB E w lo v xs) : ∃ A c, v = .slice A xs.length c := by
  rcases h.2 with ⟨rfl, hn⟩ | ⟨g, cap, cur, rfl, _⟩
  · exact ⟨none, 0, by rw [hn]⟩
  · exact ⟨_, _, rfl⟩
theorem OB.reads {n c : Nat} {A : Option Addr} (h : OB E w lo (.slice A n c) xs) : RB w A n c xs := by
  have hn : n = xs.length ∧ n ≤ c ∧ c ≤ 9223372036854775807 := by
    rcases h.2 with ⟨h1, hn⟩ | ⟨g, cap, cur, h1, _, _, h2, h3, _⟩
    · injection h1 with _ h2 h3; omega
    · injection h1 with _ h4 h5; unfold maxLen at h3; omega
  obtain ⟨hn, hc⟩ := hn
  subst hn
  refine ⟨rfl, hc, fun i hi => ?_⟩
  rcases h.2 with ⟨h1, hn⟩ | ⟨g, cap, cur, h1, _⟩
  · omega
  · injection h1 with h1 h2 h3
    subst h1
    subst h3
    refine ⟨g, 0, rfl, ?_⟩
    rw [Nat.zero_add]
    exact h.at_ hi
theorem OB.drewN (h : OB E w lo v xs) (q : Nat) : OB E (w.drewN q) lo v xs := h
theorem OB.more {lo' : Nat} (h : OB E w lo v xs) (hl : lo' ≤ lo) : OB E w lo' v xs := row_more h hl
theorem OB.lt (h : OB E w lo v xs) : ∀ k, v.ownBlock = some k → lo ≤ k ∧ k < w.heap.size := World.ownsRow.lt h
theorem OB.empty {B : Nat} (hB : B ≤ w.heap.size) : OB E (w.alloc (.cells #[] E)) B (.slice (some ⟨w.heap.size, 0, none⟩) 0 0) [] := World.ownsRow_lit w #[] 0 hB (by decide) rfl
end
theorem gb_rep (n i : Nat) : gb (List.replicate n false) i = false := by
  unfold gb
  rw [List.getD_eq_getElem?_getD, List.getElem?_replicate]
  split <;> rfl
theorem gb_ext {xs ys : List Bool} (hl : xs.length = ys.length) (h : ∀ j, j < xs.length → gb xs j = gb ys j) : xs = ys := by
  refine List.ext_getElem hl fun i a b => ?_
  have := h i a
  rwa [gb_get a, gb_get b] at this
set_option maxRecDepth 100000 in
theorem wpList_makeB {ops : Array Oper} {rest : List Oper} {o : Oper} {a : Act} {Q : Exit → Act → World → Prop} (hgd : o.guard = none) (s : Operand) (ho : o.op = .makeSlice 47 s s)
    (w : World) (n : Nat) (hs : a.eval s = .int .i64 n) (hn : n ≤ 1048576)
    (h : ∀ w', OB 4 w' w.heap.size (.slice (some ⟨w.heap.size, 0, none⟩) n n) (List.replicate n false) → Below w.heap.size w w' → wpList Tryz.prog ops Q rest (a.put o.dst (.slice (some ⟨w.heap.size, 0, none⟩) n n)) w') : wpList Tryz.prog ops Q (o :: rest) a w := by
  obtain ⟨i0, hi0, hz0, hz1, hz2⟩ := info_parts infoB
  refine wpList_make_full w hgd s s 47 ho w.heap.size 4 i0 (.bool false) 1 Tryz.underlying47 hi0 hz0 hz1 .i64 .i64 _ _ n hs hs rfl rfl (by rw [hz2]; omega) (by unfold maxLen; omega) (Nat.le_refl _) ?_
  intro w1 hown hgrow
  exact h w1 (OB.made hown rfl) ((Below.refl _ _).grown hgrow (Nat.le_refl _) (by simp))

/-! ### marks of a set -/
def mkM (n : Nat) (s : List Int) : List Bool := (List.range n).map fun (i : Nat) => hasL s (i : Int)
theorem mkM_len (n : Nat) (s : List Int) : (mkM n s).length = n := by simp [mkM]
theorem mkM_at {n : Nat} {s : List Int} {i : Nat} (h : i < n) : gb (mkM n s) i = hasL s (i : Int) := by rw [gb_get (by rw [mkM_len]; exact h)]; simp [mkM]
theorem mkM_zero (n : Nat) : mkM n [] = List.replicate n false := gb_ext (by simp [mkM]) fun j hj => by
  rw [mkM_len] at hj
  rw [mkM_at hj, gb_rep]
  rfl
theorem mkM_put {n : Nat} {s : List Int} {k m : Nat} (hk : k < s.length) (hm : gi s k = (m : Int)) (hn : m < n) : (mkM n (s.take k)).set m true = mkM n (s.take (k + 1)) := gb_ext (by simp [mkM_len]) fun j hj => by
  rw [List.length_set, mkM_len] at hj
  rw [gb_set (by rw [mkM_len]; exact hn), mkM_at hj, mkM_at hj, take_gi hk, hm]
  unfold hasL
  by_cases e : m = j
  · subst e; rw [if_pos rfl]; simp
  · rw [if_neg e]
    refine decide_eq_decide.2 ?_
    simp only [List.mem_append, List.mem_singleton]
    constructor
    · exact .inl
    · rintro (h | h)
      · exact h
      · omega
theorem set_nat {s : List Int} {n : Nat} {k : Nat} (h : setB s (n : Int) = true) (hk : k < s.length) : ∃ m : Nat, gi s k = (m : Int) ∧ m < n := by
  obtain ⟨h1, h2, _⟩ := setB_true.1 h k hk
  exact ⟨(gi s k).toNat, by omega, by omega⟩

/-! ### the marks of a set, as a walk makes them -/
set_option maxRecDepth 100000 in
set_option maxHeartbeats 400000 in
theorem markOf (A0 A1 C : Option Addr) (n0 c0 n1 c1 m d : Nat) (s : List Int) (w : World) (B : Nat) (hB : B ≤ w.heap.size) (hb : RI w C m d s) (hs : setB s (n0 : Int) = true) (hn : n0 ≤ 1048576) :
    Calls Tryz.prog 48 #[.agg #[.slice A0 n0 c0, .slice A1 n1 c1], .slice C m d] w fun e w' => ∃ v, e = .returned v ∧ OB 4 w' B v (mkM n0 s) ∧ Below B w w' := by
  have q0 := (Box.new w 30 #[.slice A0 n0 c0, .slice A1 n1 c1]).d0
  have hba : Below w.heap.size w (w.alloc (.cells #[.slice A0 n0 c0, .slice A1 n1 c1] 30)) := below_alloc (Nat.le_refl _) (Below.refl _ _)
  have hsz : (w.alloc (.cells #[.slice A0 n0 c0, .slice A1 n1 c1] 30)).heap.size = w.heap.size + 1 := by simp
  have b3 := hb.cap; have b4 := hb.top
  have HM := Lib.hid hb.len; have HS := Lib.hid hs; have HZ := Lib.hid hsz; clear hs hsz
  go_enter Tryz.func48, Tryz.ntmps48
  go_wp2_with (refine wpList_makeB rfl (.tmp 10) rfl _ n0 rfl hn ?_; intro w1 hown hb1; rw [HZ.out] at hown ⊢; replace hb1 := below_then hb1 hba.size hba; replace hown := hown.more (lo' := w.heap.size) (by omega); clear hba q0)
  go_loopw [14] (fun i wr => ∃ k : Nat, k ≤ m ∧ i = .int .i64 k ∧ OB 4 wr w.heap.size (.slice (some ⟨w.heap.size + 1, 0, none⟩) n0 n0) (mkM n0 (s.take k)) ∧ Below w.heap.size w wr) (fun i _ => m - (intOf i).toNat)
  case atStart => exact ⟨0, Nat.zero_le _, rfl, by rw [List.take_zero, mkM_zero]; exact hown, hb1⟩
  case round =>
    obtain ⟨k, hk, rfl, ho, hbr⟩ := hrel
    by_cases hlt : k < m
    · obtain ⟨j, hj, hjn⟩ := set_nat HS.out (show k < s.length by rw [HM.out]; exact hlt)
      obtain ⟨bb, off, rfl, hc⟩ := (hb.keep (keeps_below hbr)).at_ hlt
      rw [hj] at hc
      have hcm := ho.at_ (i := j) (by rw [mkM_len]; exact hjn)
      have hfz := ho.hot (i := j) (by rw [mkM_len])
      have HX := Lib.hid (mkM_put (n := n0) (show k < s.length by rw [HM.out]; exact hlt) hj hjn)
      have HO := Lib.hid ho
      clear hj ho
      go_wp2
      go_roundw
      case rel => exact ⟨k + 1, by omega, by go_num, by rw [← HX.out]; exact HO.out.set_ (by rw [mkM_len]) true, below_set (by show w.heap.size ≤ w.heap.size + 1; omega) hbr⟩
      case measure => simp [intOf]; omega
    · obtain rfl : k = m := by omega
      have HE := Lib.hid (show s.take k = s from List.take_of_length_le (by rw [HM.out]; omega))
      go_wp2
      go_ret
      exact ⟨_, rfl, by rw [← HE.out]; exact ho.more hB, hbr.mono hB⟩

set_option maxRecDepth 100000 in
set_option maxHeartbeats 400000 in
theorem l16Marks (n0 : Nat) (C : Option Addr) (m d : Nat) (s : List Int) (w : World) (B : Nat) (hB : B ≤ w.heap.size) (hb : RI w C m d s) (hs : setB s (n0 : Int) = true) (hn : n0 ≤ 1048576) :
    Calls Tryz.prog 58 #[.int .i64 (n0 : Int), .slice C m d] w fun e w' => ∃ v, e = .returned v ∧ OB 4 w' B v (mkM n0 s) ∧ Below B w w' := by
  have hba := Below.refl w.heap.size w
  have hsz : w.heap.size = w.heap.size := rfl
  have b3 := hb.cap; have b4 := hb.top
  have HM := Lib.hid hb.len; have HS := Lib.hid hs; have HZ := Lib.hid hsz; clear hs hsz
  go_enter Tryz.func58, Tryz.ntmps58
  go_wp2_with (refine wpList_makeB rfl (.tmp 7) rfl _ n0 rfl hn ?_; intro w1 hown hb1; rw [HZ.out] at hown ⊢; replace hb1 := below_then hb1 hba.size hba; replace hown := hown.more (lo' := w.heap.size) (by omega); clear hba)
  go_loopw [6] (fun i wr => ∃ k : Nat, k ≤ m ∧ i = .int .i64 k ∧ OB 4 wr w.heap.size (.slice (some ⟨w.heap.size, 0, none⟩) n0 n0) (mkM n0 (s.take k)) ∧ Below w.heap.size w wr) (fun i _ => m - (intOf i).toNat)
  case atStart => exact ⟨0, Nat.zero_le _, rfl, by rw [List.take_zero, mkM_zero]; exact hown, hb1⟩
  case round =>
    obtain ⟨k, hk, rfl, ho, hbr⟩ := hrel
    by_cases hlt : k < m
    · obtain ⟨j, hj, hjn⟩ := set_nat HS.out (show k < s.length by rw [HM.out]; exact hlt)
      obtain ⟨bb, off, rfl, hc⟩ := (hb.keep (keeps_below hbr)).at_ hlt
      rw [hj] at hc
      have hcm := ho.at_ (i := j) (by rw [mkM_len]; exact hjn)
      have hfz := ho.hot (i := j) (by rw [mkM_len])
      have HX := Lib.hid (mkM_put (n := n0) (show k < s.length by rw [HM.out]; exact hlt) hj hjn)
      have HO := Lib.hid ho
      clear hj ho
      go_wp2
      go_roundw
      case rel => exact ⟨k + 1, by omega, by go_num, by rw [← HX.out]; exact HO.out.set_ (by rw [mkM_len]) true, below_set (by show w.heap.size ≤ w.heap.size; omega) hbr⟩
      case measure => simp [intOf]; omega
    · obtain rfl : k = m := by omega
      have HE := Lib.hid (show s.take k = s from List.take_of_length_le (by rw [HM.out]; omega))
      go_wp2
      go_ret
      exact ⟨_, rfl, by rw [← HE.out]; exact ho.more hB, hbr.mono hB⟩

/-! ### the list of what is marked -/
def listUp (ms : List Bool) (k : Nat) : List Int := pick (gb ms) (fun i => (i : Int)) k
def listM (ms : List Bool) : List Int := listUp ms ms.length
theorem list_len (ms : List Bool) (k : Nat) : (listUp ms k).length ≤ k := pick_len _ _ _
theorem listM_len (ms : List Bool) : (listM ms).length ≤ ms.length := pick_len _ _ _

set_option maxRecDepth 100000 in
set_option maxHeartbeats 400000 in
theorem listOf (A : Option Addr) (n c : Nat) (ms : List Bool) (w : World) (B : Nat) (hB : B ≤ w.heap.size) (ha : RB w A n c ms) (hn : n ≤ 1048576) :
    Calls Tryz.prog 28 #[.slice A n c] w fun e w' => ∃ v, e = .returned v ∧ OI 2 w' B v (listM ms) ∧ Below B w w' := by
  have b1 := ha.cap; have b2 := ha.top
  have HL := Lib.hid ha.len
  go_enter Tryz.func28, Tryz.ntmps28
  go_wp2
  go_loopw [3, 9] (fun v i wr => ∃ k : Nat, k ≤ n ∧ i = .int .i64 k ∧ OI 2 wr w.heap.size v (listUp ms k) ∧ Below w.heap.size w wr) (fun _ i _ => n - (intOf i).toNat)
  case atStart => exact ⟨0, Nat.zero_le _, rfl, OI.empty (Nat.le_refl _), by repeat (first | with_reducible assumption | with_reducible exact Below.refl _ _ | with_reducible refine below_drewN ?_ _ | with_reducible refine Below.drew ?_ | with_reducible refine below_alloc (Nat.le_refl _) ?_)⟩
  case round =>
    obtain ⟨k, hk, rfl, ho, hbr⟩ := hrel
    have hup := list_len ms k
    have hsz := hbr.size
    by_cases hlt : k < n
    · obtain ⟨bb, off, rfl, hc⟩ := (ha.keep (keeps_below hbr)).at_ hlt
      cases hp : gb ms k with
      | true =>
        rw [hp] at hc
        have HX := Lib.hid (show listUp ms (k + 1) = listUp ms k ++ [(k : Int)] from pick_yes hp)
        clear hp
        go_wp2_with (refine wpList_pushI rfl (.tmp 15) (.tmp 17) rfl _ _ _ (listUp ms k) rfl ho _ rfl (by omega) hsz ?_; intro v2 w2 ho2 hb2 hc2 hat2)
        go_roundw
        case rel => exact ⟨k + 1, by omega, by go_num, by rw [HX.out]; exact ho2, hbr.trans hb2⟩
        case measure => simp [intOf]; omega
      | false =>
        rw [hp] at hc
        have HX := Lib.hid (show listUp ms (k + 1) = listUp ms k from pick_no hp)
        clear hp
        go_wp2
        go_roundw
        case rel => exact ⟨k + 1, by omega, by go_num, by rw [HX.out]; exact ho, hbr⟩
        case measure => simp [intOf]; omega
    · obtain rfl : k = n := by omega
      have HE := Lib.hid (show listUp ms k = listM ms by rw [← HL.out]; rfl)
      go_wp2
      go_ret
      exact ⟨_, rfl, by rw [← HE.out]; exact ho.more hB, hbr.mono hB⟩

set_option maxRecDepth 100000 in
set_option maxHeartbeats 400000 in
theorem l16List (A : Option Addr) (n c : Nat) (ms : List Bool) (w : World) (B : Nat) (hB : B ≤ w.heap.size) (ha : RB w A n c ms) (hn : n ≤ 1048576) :
    Calls Tryz.prog 39 #[.slice A n c] w fun e w' => ∃ v, e = .returned v ∧ OI 2 w' B v (listM ms) ∧ Below B w w' := by
  have b1 := ha.cap; have b2 := ha.top
  have HL := Lib.hid ha.len
  go_enter Tryz.func39, Tryz.ntmps39
  go_wp2
  go_loopw [3, 4] (fun v i wr => ∃ k : Nat, k ≤ n ∧ i = .int .i64 k ∧ OI 2 wr w.heap.size v (listUp ms k) ∧ Below w.heap.size w wr) (fun _ i _ => n - (intOf i).toNat)
  case atStart => exact ⟨0, Nat.zero_le _, rfl, OI.empty (Nat.le_refl _), by repeat (first | with_reducible assumption | with_reducible exact Below.refl _ _ | with_reducible refine below_drewN ?_ _ | with_reducible refine Below.drew ?_ | with_reducible refine below_alloc (Nat.le_refl _) ?_)⟩
  case round =>
    obtain ⟨k, hk, rfl, ho, hbr⟩ := hrel
    have hup := list_len ms k
    have hsz := hbr.size
    by_cases hlt : k < n
    · obtain ⟨bb, off, rfl, hc⟩ := (ha.keep (keeps_below hbr)).at_ hlt
      cases hp : gb ms k with
      | true =>
        rw [hp] at hc
        have HX := Lib.hid (show listUp ms (k + 1) = listUp ms k ++ [(k : Int)] from pick_yes hp)
        clear hp
        go_wp2_with (refine wpList_pushI rfl (.tmp 16) (.tmp 18) rfl _ _ _ (listUp ms k) rfl ho _ rfl (by omega) hsz ?_; intro v2 w2 ho2 hb2 hc2 hat2)
        go_roundw
        case rel => exact ⟨k + 1, by omega, by go_num, by rw [HX.out]; exact ho2, hbr.trans hb2⟩
        case measure => simp [intOf]; omega
      | false =>
        rw [hp] at hc
        have HX := Lib.hid (show listUp ms (k + 1) = listUp ms k from pick_no hp)
        clear hp
        go_wp2
        go_roundw
        case rel => exact ⟨k + 1, by omega, by go_num, by rw [HX.out]; exact ho, hbr⟩
        case measure => simp [intOf]; omega
    · obtain rfl : k = n := by omega
      have HE := Lib.hid (show listUp ms k = listM ms by rw [← HL.out]; rfl)
      go_wp2
      go_ret
      exact ⟨_, rfl, by rw [← HE.out]; exact ho.more hB, hbr.mono hB⟩

/-! ### can a player move into marked vertices -/
def someUp (ns : List Int) (ms : List Bool) : Nat → Bool
  | 0 => false
  | k + 1 => someUp ns ms k || gb ms (gi ns k).toNat
def allUp (ns : List Int) (ms : List Bool) : Nat → Bool
  | 0 => true
  | k + 1 => allUp ns ms k && gb ms (gi ns k).toNat
def intoB (o : List Int) (n : List (List Int)) (who : Int) (ms : List Bool) (v : Nat) : Bool := if gi o v = who then someUp (gl n v) ms (gl n v).length else allUp (gl n v) ms (gl n v).length
/-- what the walks ask of an arena in order -/
def fineAr (o : List Int) (n : List (List Int)) : Prop := 1 ≤ o.length ∧ o.length ≤ 256 ∧ n.length = o.length ∧ ∀ v, v < o.length → (0 ≤ gi o v ∧ gi o v ≤ 1) ∧ (1 ≤ (gl n v).length ∧ (gl n v).length ≤ 16) ∧ setB (gl n v) (o.length : Int) = true
theorem fineAr_of {o : List Int} {n : List (List Int)} (h : arB o n = true) : fineAr o n := by
  obtain ⟨⟨h1, h2, h3⟩, h4⟩ := arB_iff.1 h
  exact ⟨h1, h2, h3, fun v hv => vOk_iff.1 (h4 v hv)⟩

/-! ### the checks -/
end Go.Proofs.YtjjaolndencplaaGreat
namespace Go.Proofs.YtjjaolndencplaaGreat
open Go.RowKit

set_option maxRecDepth 100000 in
/-- append of one row of the call's own to the slices of an arena of its own -/
theorem wp_pushN {o : Oper} {a : Act} {K : Act → World → Prop} {Q : Exit → Act → World → Prop} (s x : Operand)
    (ho : o.op = .call { callee := .builtin .append, args := #[s, x], argTypes := #[28, 28] })
    (W w : World) (lo : Nat) (s0 s1 : Value) (z : ArD) (u : Value) (ys : List Int) (hs : a.eval s = s1) (hx : a.eval x = .slice (some ⟨w.heap.size, 0, none⟩) 1 1)
    (hlo : lo ≤ W.heap.size) (hown : OArn W lo s0 s1 z) (hW : Below W.heap.size W w) (hu : OI 2 w W.heap.size u ys) (hn : z.2.length ≤ 4194304)
    (h : ∀ t1 w', OArn w' lo s0 t1 (z.1, z.2 ++ [ys]) → Below lo w w' → Chg (fun b => s1.ownBlock = some b) w w' → (∀ b, t1.ownBlock = some b → s1.ownBlock = some b ∨ w.heap.size ≤ b) → K (a.put o.dst t1) w') : o.wp Tryz.prog a (w.alloc (.cells #[u] 27)) K Q := by
  obtain ⟨i1, hi1, hy0, hy1, hy2⟩ := info_parts infoII
  obtain ⟨cs, ⟨h0, h1, h2⟩, hd⟩ := hown
  obtain ⟨Au, cu, rfl⟩ := hu.form
  have hba : Below w.heap.size w (w.alloc (.cells #[.slice Au ys.length cu] 27)) := below_alloc (Nat.le_refl _) (Below.refl _ _)
  have k0 := (h0.below hW).below hba
  have k1 := row_below (row_below h1 hW) hba
  have k2 := (h2.below hW).below hba
  have ku := hu.below hba
  have hws := hW.size
  have hsz : lo ≤ (w.alloc (.cells #[.slice Au ys.length cu] 27)).heap.size := by simp; omega
  refine wp_append_lies _ s x 28 ho lo 27 i1 (.slice none 0 0) 1 24 Tryz.underlying28 hi1 hy0 hy1 hy2 rfl (by decide) s1 z.2.length cs hs k1 ⟨w.heap.size, 0, none⟩ 1 1 [.slice Au ys.length cu] hx rfl
    (push_news ((Box.new w 27 #[.slice Au ys.length cu]).cell 0)) (by simp [Value.oneCell']) (by decide) (by unfold maxLen; omega) (by omega) hsz _ rfl ?_
  intro g cap w' r hg hat hlt
  have hc := Chg.of_grown hg
  have hc' : Chg (fun b => s1.ownBlock = some b) w w' := ((Chg.refl (fun _ => False) w).alloc _).trans hc (fun _ h => h.elim) (fun _ h => h)
  have n0 := k0.chg hc (fun b hb hs => own_ne k0 k1 (by decide) b hb hs)
  have n2 : OL 2 w' lo cs (gl z.2) := fun i hi => (k2 i hi).chg hc (fun b hb hs => own_ne (k2 i hi) k1 (by decide) b hb hs)
  have nu := ku.chg hc (fun b hb hs => own_ne ku k1 (by decide) b hb hs)
  refine h _ w' ⟨cs ++ [.slice Au ys.length cu], ⟨n0, ?_, n2.app (nu.more hlo) (by have := row_len k1; omega)⟩, ?_⟩ ((hba.mono (Nat.le_trans hlo hws)).trans (hc.below hsz (fun b hb => (World.ownsRow.lt k1 b hb).1))) hc' ?_
  · simpa using r
  · refine Dis.cons (hd.tail.app (fun i hi => apart_sep (fun b hb => (h2.lt i hi b hb).2) (fun b hb => (hu.lt b hb).1))) (fun i hi => ?_)
    rw [List.length_append, List.length_singleton] at hi
    by_cases e : i < cs.length
    · rw [gv_app_lt e]; exact hd.head e
    · obtain rfl : i = cs.length := by omega
      rw [gv_app_eq]
      exact apart_sep (fun b hb => (h0.lt b hb).2) (fun b hb => (hu.lt b hb).1)
  · intro b hb
    simp [Value.ownBlock] at hb
    subst hb
    rcases hat with h | h
    · exact .inl h
    · right; simp at h; omega
theorem OArn.nil (w : World) (lo : Nat) : OArn w lo (.slice none 0 0) (.slice none 0 0) ([], []) :=
  ⟨[], ⟨OI.nil _ _ _, World.ownsRow_nil w lo 27 1, fun i hi => absurd hi (by simp)⟩, fun i j hi hj hne => by simp at hi hj; omega⟩
set_option maxRecDepth 100000 in
theorem l1Copy (A : Option Addr) (n c : Nat) (xs : List Int) (w : World) (B : Nat) (hB : B ≤ w.heap.size) (ha : RI w A n c xs) (hn : n ≤ 1048576) :
    Calls Tryz.prog 36 #[.slice A n c] w fun e w' => ∃ v, e = .returned v ∧ OI 2 w' B v xs ∧ Below B w w' := by
  have hba : Below w.heap.size w (w.alloc (.cells #[] 2)) := below_alloc (Nat.le_refl _) (Below.refl _ _)
  have hem := OI.empty (E := 2) (w := w) (B := w.heap.size) (Nat.le_refl _)
  go_enter Tryz.func36, Tryz.ntmps36
  go_wp2_with (refine wpList_appI rfl (.tmp 3) (.tmp 4) rfl _ w.heap.size _ [] rfl hem _ _ _ xs rfl (ha.keep (keeps_below hba)) (by simp) (by omega) (by simp) ?_; intro v1 w1 ho1 hb1 hc1 hat1)
  go_ret
  exact ⟨_, rfl, by simpa using ho1.more hB, (hba.trans hb1).mono hB⟩

end Go.Proofs.YtjjaolndencplaaGreat
namespace Go.Proofs.YtjjaolndencplaaGreat
open Go.RowKit

theorem OArn.join {wC wF : World} {lo loC : Nat} {v1 v2 : Value} {o : List Int} {n : List (List Int)} (h : OArn wC loC (.slice none 0 0) v2 ([], n)) (f : Far loC wC wF) (h1 : OI 2 wF lo v1 o) (hlo : lo ≤ loC) (hap : ∀ b, v1.ownBlock = some b → b < loC ∨ wC.heap.size ≤ b) : OArn wF lo v1 v2 (o, n) := by
  obtain ⟨cs, ⟨_, h3, h4⟩, hd⟩ := h
  have h4' := h4.hold f
  refine ⟨cs, ⟨h1, row_more (row_hold h3 f) hlo, h4'.more hlo⟩, Dis.cons hd.tail (fun i hi => ?_)⟩
  unfold Apart
  cases e : v1.ownBlock with
  | none => exact .inl rfl
  | some b =>
    right
    intro e2
    have := (h4.lt i hi b e2.symm)
    have := hap b e
    omega

theorem OArn.chg {S : Nat → Prop} {w w' : World} {lo : Nat} {s0 s1 : Value} {z : ArD} (h : OArn w lo s0 s1 z) (hc : Chg S w w') (hS : ∀ b, S b → b < lo) : OArn w' lo s0 s1 z := by
  obtain ⟨cs, h1, h2⟩ := h
  exact ⟨cs, h1.chg hc hS, h2⟩
end Go.Proofs.YtjjaolndencplaaGreat
namespace Go.Proofs.YtjjaolndencplaaGreat
open Go.RowKit

/-- one sweep over the first k: what is marked and not kept is unmarked at once -/
def sweep (kf : List Bool → Nat → Bool) (ms : List Bool) : Nat → List Bool
  | 0 => ms
  | k + 1 => if gb (sweep kf ms k) k && !kf (sweep kf ms k) k then (sweep kf ms k).set k false else sweep kf ms k
def sweeps (kf : List Bool → Nat → Bool) (m : Nat) (ms : List Bool) : Nat → List Bool
  | 0 => ms
  | t + 1 => sweep kf (sweeps kf m ms t) m
theorem sweep_len (kf : List Bool → Nat → Bool) (ms : List Bool) (k : Nat) : (sweep kf ms k).length = ms.length := by
  induction k with
  | zero => rfl
  | succ k ih => unfold sweep; split <;> simp [ih]
theorem sweeps_len (kf : List Bool → Nat → Bool) (m : Nat) (ms : List Bool) (t : Nat) : (sweeps kf m ms t).length = ms.length := by
  induction t with
  | zero => rfl
  | succ t ih => rw [sweeps, sweep_len, ih]
/-- the sweeps' end -/
def isGfp (kf : List Bool → Nat → Bool) (m : Nat) (ms r : List Bool) : Prop := ∃ t, r = sweeps kf m ms t ∧ sweep kf r m = r
theorem sweeps_fix {kf : List Bool → Nat → Bool} {m : Nat} {ms : List Bool} {t : Nat} (h : sweep kf (sweeps kf m ms t) m = sweeps kf m ms t) : ∀ d, sweeps kf m ms (t + d) = sweeps kf m ms t
  | 0 => rfl
  | d + 1 => by rw [← Nat.add_assoc, sweeps, sweeps_fix h d, h]
theorem isGfp.eq {kf : List Bool → Nat → Bool} {m : Nat} {ms r r' : List Bool} (h : isGfp kf m ms r) (h' : isGfp kf m ms r') : r = r' := by
  obtain ⟨t, rfl, hf⟩ := h
  obtain ⟨t', rfl, hf'⟩ := h'
  rcases Nat.le_total t t' with hl | hl
  · have := sweeps_fix hf (t' - t)
    rw [show t + (t' - t) = t' from by omega] at this
    exact this.symm
  · have := sweeps_fix hf' (t - t')
    rw [show t' + (t - t') = t from by omega] at this
    exact this
/-- the greatest set, by whatever it is that the sweeps end in -/
noncomputable def gfp (kf : List Bool → Nat → Bool) (m : Nat) (ms : List Bool) : List Bool := @Classical.epsilon _ ⟨ms⟩ (isGfp kf m ms)
theorem isGfp.is {kf : List Bool → Nat → Bool} {m : Nat} {ms r : List Bool} (h : isGfp kf m ms r) : r = gfp kf m ms := h.eq (@Classical.epsilon_spec _ (isGfp kf m ms) ⟨r, h⟩)
theorem isGfp.len {kf : List Bool → Nat → Bool} {m : Nat} {ms r : List Bool} (h : isGfp kf m ms r) : r.length = ms.length := by
  obtain ⟨t, rfl, _⟩ := h
  exact sweeps_len _ _ _ _
/-- how many are marked -/
def cnt (ms : List Bool) : Nat := ms.count true
theorem OB.form2 {E : TypeId} {w : World} {lo : Nat} {v : Value} {xs : List Bool} (h : OB E w lo v xs) (h0 : 0 < xs.length) : ∃ g c, v = .slice (some ⟨g, 0, none⟩) xs.length c := by
  rcases h.2 with ⟨_, hn⟩ | ⟨g, cap, cur, rfl, _⟩
  · omega
  · exact ⟨_, _, rfl⟩
theorem OB.atx {E : TypeId} {w : World} {lo g n c i : Nat} {xs : List Bool} (h : OB E w lo (.slice (some ⟨g, 0, none⟩) n c) xs) (hi : i < xs.length) : w.cell? ⟨g, i, none⟩ = some (.bool (gb xs i)) := h.at_ hi

set_option maxRecDepth 100000 in
theorem wpList_appB {ops : Array Oper} {rest : List Oper} {o : Oper} {a : Act} {Q : Exit → Act → World → Prop} (hgd : o.guard = none) (s x : Operand)
    (ho : o.op = .call { callee := .builtin .append, args := #[s, x], argTypes := #[47, 47] })
    (w : World) (lo : Nat) (v : Value) (xs : List Bool) (hs : a.eval s = v) (hown : OB 4 w lo v xs) (X : Option Addr) (m c : Nat) (ys : List Bool) (hx : a.eval x = .slice X m c) (h0 : 0 < m) (hr : RB w X m c ys)
    (hn : xs.length ≤ 4194304) (hm : m ≤ 4194304) (hlo : lo ≤ w.heap.size)
    (h : ∀ v' w', OB 4 w' lo v' (xs ++ ys) → Below lo w w' → wpList Tryz.prog ops Q rest (a.put o.dst v') w') : wpList Tryz.prog ops Q (o :: rest) a w := by
  obtain ⟨i0, hi0, hz0, hz1, hz2⟩ := info_parts infoB
  obtain ⟨b0, off0, hX, _⟩ := hr.at_ h0
  subst hX
  have hnews : ∀ j u, (ys.map Value.bool)[j]? = some u → w.cell? ((⟨b0, off0, none⟩ : Addr).add j) = some u := by
    intro j u hj
    rw [List.getElem?_map] at hj
    have hjl : j < ys.length := by
      rcases Nat.lt_or_ge j ys.length with h1 | h1
      · exact h1
      · rw [List.getElem?_eq_none h1] at hj; cases hj
    obtain ⟨b, off, e, hc⟩ := hr.at_ (i := j) (by rw [← hr.len]; exact hjl)
    injection e with e
    injection e with e1 e2
    subst e1; subst e2
    rw [add_at, hc]
    rw [List.getElem?_eq_getElem hjl] at hj
    rw [gb_get hjl]
    simpa using hj
  refine wpList_append_lies w hgd s x 47 ho lo 4 i0 (.bool false) 1 1 Tryz.underlying47 hi0 hz0 hz1 hz2 rfl (by decide) v xs.length (xs.map Value.bool) hs hown ⟨b0, off0, none⟩ m c (ys.map Value.bool) hx (by rw [List.length_map, hr.len]; omega) hnews (fun u hu => by
    obtain ⟨y, _, rfl⟩ := List.mem_map.1 hu
    rfl) h0 (by unfold maxLen; omega) (by omega) hlo w.heap.size rfl ?_
  intro g cap w' h2 h3 h4 h5
  refine h _ w' ?_ ((Chg.of_grown h3).below hlo (fun z hz => (hown.lt z hz).1))
  unfold OB
  rw [List.length_append, List.map_append, hr.len]
  exact h2

end Go.Proofs.YtjjaolndencplaaGreat
namespace Go.Proofs.YtjjaolndencplaaGreat
open Go.RowKit

def fill (f : Nat → Int) (n : Nat) : List Int := (List.range n).map f
theorem fill_len (f : Nat → Int) (n : Nat) : (fill f n).length = n := by simp [fill]
theorem fill_at {f : Nat → Int} {n i : Nat} (h : i < n) : gi (fill f n) i = f i := by
  rw [gi_get (by rw [fill_len]; exact h)]; simp [fill]
/-! ### the first successor that is allowed -/
end Go.Proofs.YtjjaolndencplaaGreat
namespace Go.Proofs.YtjjaolndencplaaGreat
open Go.RowKit

/-- the marks of the greatest set that who need not leave -/
noncomputable def stayM (o : List Int) (n : List (List Int)) (who : Int) (s : List Int) : List Bool := gfp (intoB o n who) o.length (mkM o.length s)
end Go.Proofs.YtjjaolndencplaaGreat
namespace Go.Proofs.YtjjaolndencplaaGreat
open Go.RowKit

theorem Chg.push {S T : Nat → Prop} {a b c : World} (h : Chg S a b) (k : Chg T b c) (hT : ∀ x, T x → S x ∨ a.heap.size ≤ x) : Chg S a c :=
  ⟨k.os.trans h.os, k.tape.trans h.tape, k.output.trans h.output, Nat.le_trans h.size k.size, fun x hx hu =>
    (k.block x (Nat.lt_of_lt_of_le hx h.size) (fun ht => (hT x ht).elim hu (by omega))).trans (h.block x hx hu)⟩
theorem Chg.drewN {S : Nat → Prop} {a b : World} (h : Chg S a b) (q : Nat) : Chg S a (b.drewN q) := ⟨h.os, h.tape, h.output, h.size, h.block⟩
theorem Chg.then_below {S : Nat → Prop} {a b c : World} {B : Nat} (h : Chg S a b) (k : Below B b c) (hB : a.heap.size ≤ B) : Chg S a c :=
  ⟨k.os.trans h.os, k.tape.trans h.tape, k.output.trans h.output, Nat.le_trans h.size k.size, fun x hx hu => (k.block x (by omega)).trans (h.block x hx hu)⟩
theorem RI.one1 {w : World} {b : Nat} {x : Int} (h : w.cell? ⟨b, 0, none⟩ = some (.int .i64 x)) : RI w (some ⟨b, 0, none⟩) 1 1 [x] :=
  ⟨rfl, ⟨by omega, by omega⟩, fun i hi => ⟨b, 0, rfl, by
    obtain rfl : i = 0 := by omega
    simpa [gi] using h⟩⟩
/-- the places whose number is not negative -/
def wonUp (L : List Int) (k : Nat) : List Int := pick (fun i => decide (0 ≤ gi L i)) (fun i => (i : Int)) k
theorem OI.off {E : TypeId} {w : World} {lo g n c : Nat} {xs : List Int} (h : OI E w lo (.slice (some ⟨g, 0, none⟩) n c) xs) {p : Addr} (hp : g ≠ p.block) (u : Value) : OI E (w.setCell p u) lo (.slice (some ⟨g, 0, none⟩) n c) xs :=
  h.chg (Chg.set p u) fun b hb hs => hp (by have hb' : some g = some b := hb; injection hb' with e; exact e.trans hs)
theorem OB.off {E : TypeId} {w : World} {lo g n c : Nat} {xs : List Bool} (h : OB E w lo (.slice (some ⟨g, 0, none⟩) n c) xs) {p : Addr} (hp : g ≠ p.block) (u : Value) : OB E (w.setCell p u) lo (.slice (some ⟨g, 0, none⟩) n c) xs :=
  row_chg h (Chg.set p u) fun b hb hs => hp (by have hb' : some g = some b := hb; injection hb' with e; exact e.trans hs)
theorem OI.form2 {E : TypeId} {w : World} {lo : Nat} {v : Value} {xs : List Int} (h : OI E w lo v xs) (h0 : 0 < xs.length) : ∃ g c, v = .slice (some ⟨g, 0, none⟩) xs.length c := by
  rcases h.2 with ⟨_, hn⟩ | ⟨g, cap, cur, rfl, _⟩
  · omega
  · exact ⟨_, _, rfl⟩
end Go.Proofs.YtjjaolndencplaaGreat
