/- Small words on worlds, slices and lists that the walks of this seat lean on: no function of the program is named here. Contracts: l1In, l16Has, eqInt64S. -/
import Derived.WalkKit
import Derived.Deep.QuietTactic
import Derived.BigQuiet
import Derived.Lib.Hide
import Derived.Deep.Draws
import Derived.Test.YtkhkdnmpbfmmeaaDoorRows
namespace Go.Proofs.YtkhkdnmpbfmmeaaDoor
open Go.RowKit

/-! ### lists -/
def gi (xs : List Int) (i : Nat) : Int := xs.getD i 0
def gb (xs : List Bool) (i : Nat) : Bool := xs.getD i false
theorem gi_get {xs : List Int} {i : Nat} (h : i < xs.length) : gi xs i = xs[i] := by simp [gi, h]
theorem gb_get {xs : List Bool} {i : Nat} (h : i < xs.length) : gb xs i = xs[i] := by simp [gb, h]
theorem gi_some {xs : List Int} {i : Nat} (h : i < xs.length) : xs[i]? = some (gi xs i) := by simp [gi, h]
theorem gi_mem {xs : List Int} {i : Nat} (h : i < xs.length) : gi xs i ∈ xs := by rw [gi_get h]; exact List.getElem_mem h
theorem mem_gi {xs : List Int} {x : Int} (h : x ∈ xs) : ∃ i, i < xs.length ∧ gi xs i = x := by
  obtain ⟨i, hi, rfl⟩ := List.getElem_of_mem h
  exact ⟨i, hi, gi_get hi⟩
theorem gi_take {xs : List Int} {n i : Nat} (h : i < n) : gi (xs.take n) i = gi xs i := by simp [gi, h]
theorem gi_ext {xs ys : List Int} (hl : xs.length = ys.length) (h : ∀ j, j < xs.length → gi xs j = gi ys j) : xs = ys := by
  refine List.ext_getElem hl fun i a b => ?_
  have := h i a
  rwa [gi_get a, gi_get b] at this
theorem take_gi {xs : List Int} {k : Nat} (h : k < xs.length) : xs.take (k + 1) = xs.take k ++ [gi xs k] := by
  rw [gi_get h, List.take_succ_eq_append_getElem h]
theorem all_succ {p : Nat → Prop} {k : Nat} (h : ∀ j, j < k → p j) (h1 : p k) : ∀ j, j < k + 1 → p j := fun j hj => by
  rcases Nat.lt_or_ge j k with h' | h'
  · exact h j h'
  · obtain rfl : j = k := by omega
    exact h1
theorem ret_b {a b : Bool} (h : a = b) : Ending.returned (.bool a) = .returned (.bool b) := by rw [h]
theorem ret_i {k : IntKind} {a b : Int} (h : a = b) : Ending.returned (.int k a) = .returned (.int k b) := by rw [h]
theorem val_i {k : IntKind} {a b : Int} (h : a = b) : Value.int k a = .int k b := by rw [h]

/-! ### worlds -/
/-- nothing has turned but the count of draws -/
def Qt (w w' : World) : Prop := ∃ q, w' = w.drewN q
theorem Qt.refl (w : World) : Qt w w := ⟨0, rfl⟩
theorem Qt.drewN {w : World} (q : Nat) : Qt w (w.drewN q) := ⟨q, rfl⟩
theorem Qt.drew2 {w : World} (q p : Nat) : Qt w ((w.drewN q).drewN p) := ⟨q + p, by rw [World.drewN_drewN]⟩
theorem Qt.trans {a b c : World} (h : Qt a b) (k : Qt b c) : Qt a c := by
  obtain ⟨q, rfl⟩ := h; obtain ⟨p, rfl⟩ := k
  exact Qt.drew2 q p
theorem below_drewN {B : Nat} {a w : World} (h : Below B a w) (n : Nat) : Below B a (w.drewN n) := ⟨h.os, h.tape, h.output, h.size, h.block⟩
theorem Qt.below {w w' : World} (B : Nat) (h : Qt w w') : Below B w w' := by
  obtain ⟨q, rfl⟩ := h
  exact below_drewN (Below.refl _ _) q

theorem below_alloc {B : Nat} {a w : World} {o : Obj} (hB : B ≤ a.heap.size) (h : Below B a w) : Below B a (w.alloc o) := h.alloc (Nat.le_trans hB h.size) o
theorem below_then {B B' : Nat} {a b c : World} (k : Below B' b c) (hB : B ≤ B') (h : Below B a b) : Below B a c := h.trans (k.mono hB)
theorem below_undrew {w w' : World} (h : Below w.drew.heap.size w.drew w') : Below w.heap.size w w' := ⟨h.os, h.tape, h.output, h.size, h.block⟩
/-- every cell of w is a cell of w', unchanged -/
def Keeps (w w' : World) : Prop := ∀ p v, w.cell? p = some v → w'.cell? p = some v
theorem Keeps.refl (w : World) : Keeps w w := fun _ _ h => h
theorem Keeps.trans {a b c : World} (h : Keeps a b) (k : Keeps b c) : Keeps a c := fun p v hv => k p v (h p v hv)
theorem keeps_below {w w' : World} (h : Below w.heap.size w w') : Keeps w w' := fun p _ hv =>
  (h.cell (World.block_lt_of_cell? w p hv)).trans hv
theorem keeps_alloc (w : World) (o : Obj) : Keeps w (w.alloc o) := keeps_below ((Below.refl _ _).alloc (Nat.le_refl _) o)
theorem Qt.keeps {w w' : World} (h : Qt w w') : Keeps w w' := by
  obtain ⟨q, rfl⟩ := h
  exact fun _ _ h => h

/-! ### a call that leaves the world alone but for draws, inside a region that draws -/
theorem quiet1 {P : Program} {f : FuncId} {args : Array Value} {w : World} {a n : Nat} {v : Value}
    (h : Calls P f args (w.drewN (a + n)) fun e w' => e = .returned v ∧ Qt (w.drewN (a + n)) w') : Calls P f args (w.drewN (a + n)) fun e w'' => e = .returned v ∧ ∃ m, w'' = w.drewN (a + m) :=
  h.mono fun _ _ ⟨he, m, hm⟩ => ⟨he, n + m, by rw [hm, World.drewN_drewN, Nat.add_assoc]⟩

/-! ### slices of int64, of bool, that read as lists -/
def RI (w : World) (A : Option Addr) (n c : Nat) (xs : List Int) : Prop :=
  xs.length = n ∧ (n ≤ c ∧ c ≤ 9223372036854775807) ∧ ∀ i, i < n → ∃ b off, A = some ⟨b, off, none⟩ ∧ w.cell? ⟨b, off + i, none⟩ = some (.int .i64 (gi xs i))
section
variable {w w' : World} {A : Option Addr} {n c : Nat} {xs : List Int}
theorem RI.len (h : RI w A n c xs) : xs.length = n := h.1
theorem RI.cap (h : RI w A n c xs) : n ≤ c := h.2.1.1
theorem RI.top (h : RI w A n c xs) : c ≤ 9223372036854775807 := h.2.1.2
theorem RI.at_ (h : RI w A n c xs) {i : Nat} (hi : i < n) : ∃ b off, A = some ⟨b, off, none⟩ ∧ w.cell? ⟨b, off + i, none⟩ = some (.int .i64 (gi xs i)) := h.2.2 i hi
theorem RI.keep (h : RI w A n c xs) (k : Keeps w w') : RI w' A n c xs :=
  ⟨h.1, h.2.1, fun i hi => by obtain ⟨b, off, e, hc⟩ := h.2.2 i hi; exact ⟨b, off, e, k _ _ hc⟩⟩
theorem RI.take (h : RI w A n c xs) {k : Nat} (hk : k ≤ n) : RI w A k c (xs.take k) :=
  ⟨by rw [List.length_take, h.1]; omega, ⟨by have := h.cap; omega, h.top⟩, fun i hi => by obtain ⟨b, off, e, hc⟩ := h.2.2 i (by omega); exact ⟨b, off, e, by rw [gi_take hi]; exact hc⟩⟩
end

/-- a slice of the call's own, of int64 (type number E): 'ownsRow' at lists of numbers -/
def OI (E : TypeId) (w : World) (lo : Nat) (v : Value) (xs : List Int) : Prop := w.ownsRow lo E 1 v xs.length (xs.map (Value.int .i64))
theorem OI.form {E : TypeId} {w : World} {lo : Nat} {v : Value} {xs : List Int} (h : OI E w lo v xs) : ∃ A c, v = .slice A xs.length c := by
  rcases h.2 with ⟨rfl, hn⟩ | ⟨g, cap, cur, rfl, _⟩
  · exact ⟨none, 0, by rw [hn]⟩
  · exact ⟨_, _, rfl⟩
theorem OI.reads {E : TypeId} {w : World} {lo n c : Nat} {A : Option Addr} {xs : List Int} (h : OI E w lo (.slice A n c) xs) : RI w A n c xs := by
  have hn : n = xs.length ∧ n ≤ c ∧ c ≤ 9223372036854775807 := by
    rcases h.2 with ⟨h1, hn⟩ | ⟨g, cap, cur, h1, _, _, h2, h3, _⟩
    · injection h1 with _ h2 h3; omega
    · injection h1 with _ h4 h5; unfold maxLen at h3; omega
  obtain ⟨hn, hc⟩ := hn
  subst hn
  refine ⟨rfl, hc, fun i hi => ?_⟩
  rcases h.2 with ⟨h1, hn⟩ | ⟨g, cap, cur, h1, _⟩
  · omega
  · injection h1 with h1 h2 h3
    subst h1
    subst h3
    refine ⟨g, 0, rfl, ?_⟩
    have := h.cellAt i (by omega)
    rw [Nat.zero_add, this, List.getElem?_map, gi_some hi]
    rfl
theorem OI.keep {E : TypeId} {w w' : World} {lo : Nat} {v : Value} {xs : List Int} {row : Option Nat} (h : OI E w lo v xs) (hg : w.grownBy w' row) (hne : v.ownBlock = none ∨ v.ownBlock ≠ row) : OI E w' lo v xs := World.ownsRow.kept h hg hne
theorem OI.below {E : TypeId} {w w' : World} {lo : Nat} {v : Value} {xs : List Int} (h : OI E w lo v xs) (hb : Below w.heap.size w w') : OI E w' lo v xs :=
  h.keep (row := none) ⟨hb.os, hb.tape, hb.output, hb.size, fun k hk _ => hb.block k hk⟩ (by cases v.ownBlock <;> simp)
theorem OI.drewN {E : TypeId} {w : World} {lo : Nat} {v : Value} {xs : List Int} (h : OI E w lo v xs) (q : Nat) : OI E (w.drewN q) lo v xs := h
theorem OI.more {E : TypeId} {w : World} {lo lo' : Nat} {v : Value} {xs : List Int} (h : OI E w lo v xs) (hl : lo' ≤ lo) : OI E w lo' v xs := by
  refine ⟨h.1, ?_⟩
  rcases h.2 with h1 | ⟨g, cap, cur, h1, h2, h3⟩
  · exact .inl h1
  · exact .inr ⟨g, cap, cur, h1, by omega, h3⟩

/-- the same, of bool -/
def OB (E : TypeId) (w : World) (lo : Nat) (v : Value) (xs : List Bool) : Prop := w.ownsRow lo E 1 v xs.length (xs.map Value.bool)
section
variable {E : TypeId} {w w' : World} {lo : Nat} {v : Value} {xs : List Bool}
theorem OB.keep {row : Option Nat} (h : OB E w lo v xs) (hg : w.grownBy w' row) (hne : v.ownBlock = none ∨ v.ownBlock ≠ row) : OB E w' lo v xs := World.ownsRow.kept h hg hne
theorem OB.below (h : OB E w lo v xs) (hb : Below w.heap.size w w') : OB E w' lo v xs :=
  h.keep (row := none) ⟨hb.os, hb.tape, hb.output, hb.size, fun k hk _ => hb.block k hk⟩ (by cases v.ownBlock <;> simp)
theorem OB.at_ {g n c i : Nat} (h : OB E w lo (.slice (some ⟨g, 0, none⟩) n c) xs) (hi : i < xs.length) : w.cell? ⟨g, i, none⟩ = some (.bool (gb xs i)) := by
  rcases h.2 with ⟨h1, hn⟩ | ⟨g', cap, cur, h1, _⟩
  · omega
  · injection h1 with h1 h2 h3
    injection h1 with h1
    injection h1 with h1
    subst h2
    have := World.ownsRow.cellAt (w := w) (base := lo) (e := E) (size := 1) (g := g) (cap := c) (n := xs.length) (xs := xs.map Value.bool) h i (by omega)
    rw [this, List.getElem?_map, List.getElem?_eq_getElem hi, gb_get hi]
    rfl
theorem OB.hot {g n c i : Nat} (h : OB E w lo (.slice (some ⟨g, 0, none⟩) n c) xs) (hn : n = xs.length) : w.frozen? ⟨g, i, none⟩ = false := by
  subst hn
  exact World.ownsRow.frozenAt h i
theorem OB.set_ {g n c i : Nat} (h : OB E w lo (.slice (some ⟨g, 0, none⟩) n c) xs) (hn : n = xs.length) (b : Bool) : OB E (w.setCell ⟨g, i, none⟩ (.bool b)) lo (.slice (some ⟨g, 0, none⟩) n c) (xs.set i b) := by
  subst hn
  have := (World.ownsRow.stored h i (.bool b)).1
  unfold OB
  rw [List.length_set, List.map_set]
  exact this
theorem OB.made {g n c : Nat} {cells : List Value} (h : w.ownsRow lo E 1 (.slice (some ⟨g, 0, none⟩) n c) n cells) (hc : cells = (madeCells (Value.bool false).cells (n * 1)).toList) : OB E w lo (.slice (some ⟨g, 0, none⟩) n c) (List.replicate n false) := by
  subst hc
  rw [show (Value.bool false).cells = #[Value.bool false] from rfl, Nat.mul_one, toList_madeCells_one] at h
  unfold OB
  rw [List.length_replicate, List.map_replicate]
  exact h
end
theorem OI.made {E : TypeId} {w : World} {lo g n c : Nat} {cells : List Value} (h : w.ownsRow lo E 1 (.slice (some ⟨g, 0, none⟩) n c) n cells) (hc : cells = (madeCells (Value.int .i64 0).cells (n * 1)).toList) : OI E w lo (.slice (some ⟨g, 0, none⟩) n c) (List.replicate n 0) := by
  subst hc
  rw [show (Value.int .i64 0).cells = #[Value.int .i64 0] from rfl, Nat.mul_one, toList_madeCells_one] at h
  unfold OI
  rw [List.length_replicate, List.map_replicate]
  exact h
theorem OI.hot {E : TypeId} {w : World} {lo g n c i : Nat} {xs : List Int} (h : OI E w lo (.slice (some ⟨g, 0, none⟩) n c) xs) (hn : n = xs.length) : w.frozen? ⟨g, i, none⟩ = false := by
  subst hn
  exact World.ownsRow.frozenAt h i
theorem OI.set_ {E : TypeId} {w : World} {lo g n c i : Nat} {xs : List Int} (h : OI E w lo (.slice (some ⟨g, 0, none⟩) n c) xs) (hn : n = xs.length) (x : Int) : OI E (w.setCell ⟨g, i, none⟩ (.int .i64 x)) lo (.slice (some ⟨g, 0, none⟩) n c) (xs.set i x) := by
  subst hn
  have := (World.ownsRow.stored h i (.int .i64 x)).1
  unfold OI
  rw [List.length_set, List.map_set]
  exact this
theorem OI.cellAt {E : TypeId} {w : World} {lo g n c i : Nat} {xs : List Int} (h : OI E w lo (.slice (some ⟨g, 0, none⟩) n c) xs) (hi : i < xs.length) : w.cell? ⟨g, i, none⟩ = some (.int .i64 (gi xs i)) := by
  obtain ⟨b, off, e, hc⟩ := h.reads.at_ (i := i) (by rw [← h.reads.len]; exact hi)
  injection e with e
  injection e with e1 e2
  subst e1; subst e2
  simpa using hc
theorem gi_set {xs : List Int} {i j : Nat} {b : Int} (hi : i < xs.length) : gi (xs.set i b) j = if i = j then b else gi xs j := by
  unfold gi
  rw [List.getD_eq_getElem?_getD, List.getD_eq_getElem?_getD, List.getElem?_set]
  split
  · simp_all
  · rfl
/-- the two rows lie in different blocks -/
def Apart (u v : Value) : Prop := u.ownBlock = none ∨ u.ownBlock ≠ v.ownBlock

theorem OI.far {E : TypeId} {w : World} {lo : Nat} {v : Value} {xs : List Int} {p : Addr} (h : OI E w lo v xs) (hp : p.block < lo) (u : Value) : OI E (w.setCell p u) lo v xs := ownsRow_setCell_below h hp u
theorem OI.lt {E : TypeId} {w : World} {lo : Nat} {v : Value} {xs : List Int} (h : OI E w lo v xs) : ∀ k, v.ownBlock = some k → lo ≤ k ∧ k < w.heap.size := World.ownsRow.lt h
/-! ### the first index that answers yes, -1 for none -/
def firstI (p : Nat → Bool) : Nat → Int
  | 0 => -1
  | n + 1 => if firstI p n = -1 then (if p n = true then (n : Int) else -1) else firstI p n
theorem firstI_none {p : Nat → Bool} : ∀ {n : Nat}, (∀ j, j < n → p j = false) → firstI p n = -1
  | 0, _ => rfl
  | n + 1, h => by
    rw [firstI, if_pos (firstI_none fun j hj => h j (by omega)), h n (by omega)]
    rfl
theorem firstI_hit {p : Nat → Bool} {k : Nat} (hk : p k = true) (h : ∀ j, j < k → p j = false) : ∀ {n : Nat}, k < n → firstI p n = (k : Int)
  | 0, hn => absurd hn (by omega)
  | n + 1, hn => by
    by_cases e : k = n
    · subst e
      rw [firstI, if_pos (firstI_none h), if_pos hk]
    · rw [firstI, firstI_hit hk h (show k < n by omega), if_neg (by omega)]

/-! ### many rows of int64 held in one list of slice values -/
def gv (cs : List Value) (i : Nat) : Value := cs.getD i undef
theorem gv_get {xs : List Value} {i : Nat} (h : i < xs.length) : gv xs i = xs[i] := by simp [gv, h]
theorem gv_some {xs : List Value} {i : Nat} (h : i < xs.length) : xs[i]? = some (gv xs i) := by simp [gv, h]
theorem gv_set {xs : List Value} {i j : Nat} {b : Value} (hi : i < xs.length) : gv (xs.set i b) j = if i = j then b else gv xs j := by
  unfold gv
  rw [List.getD_eq_getElem?_getD, List.getD_eq_getElem?_getD, List.getElem?_set]
  split
  · simp_all
  · rfl
/-- each value of the list is a row of the call's own, and reads as f says -/
def OL (E : TypeId) (w : World) (lo : Nat) (cs : List Value) (f : Nat → List Int) : Prop := ∀ i, i < cs.length → OI E w lo (gv cs i) (f i)
/-- no two of them share a block -/
def Dis (cs : List Value) : Prop := ∀ i j, i < cs.length → j < cs.length → i ≠ j → Apart (gv cs i) (gv cs j)
theorem OI.nil (E : TypeId) (w : World) (lo : Nat) : OI E w lo (.slice none 0 0) [] := World.ownsRow_nil w lo E 1
theorem OL.far {E : TypeId} {w : World} {lo : Nat} {cs : List Value} {f : Nat → List Int} {p : Addr} (h : OL E w lo cs f) (hp : p.block < lo) (u : Value) : OL E (w.setCell p u) lo cs f := fun i hi => (h i hi).far hp u
theorem OL.below {E : TypeId} {w w' : World} {lo : Nat} {cs : List Value} {f : Nat → List Int} (h : OL E w lo cs f) (hb : Below w.heap.size w w') : OL E w' lo cs f := fun i hi => (h i hi).below hb
theorem OL.more {E : TypeId} {w : World} {lo lo' : Nat} {cs : List Value} {f : Nat → List Int} (h : OL E w lo cs f) (hl : lo' ≤ lo) : OL E w lo' cs f := fun i hi => (h i hi).more hl
theorem OL.lt {E : TypeId} {w : World} {lo : Nat} {cs : List Value} {f : Nat → List Int} (h : OL E w lo cs f) : ∀ i, i < cs.length → ∀ b, (gv cs i).ownBlock = some b → lo ≤ b ∧ b < w.heap.size := fun i hi b hb => (h i hi).lt b hb
theorem OL.set_ {E : TypeId} {w : World} {lo k : Nat} {cs : List Value} {f : Nat → List Int} {v : Value} {xs : List Int} (h : OL E w lo cs f) (hk : k < cs.length) (hv : OI E w lo v xs) : OL E w lo (cs.set k v) (fun i => if k = i then xs else f i) := by
  intro i hi
  rw [List.length_set] at hi
  rw [gv_set hk]
  by_cases e : k = i
  · simpa [e] using hv
  · simpa [e] using h i hi
theorem OL.congr {E : TypeId} {w : World} {lo : Nat} {cs : List Value} {f g : Nat → List Int} (h : OL E w lo cs f) (e : ∀ i, i < cs.length → f i = g i) : OL E w lo cs g := fun i hi => e i hi ▸ h i hi
theorem Apart.symm {u v : Value} (h : Apart u v) : Apart v u := by
  unfold Apart at *
  rcases h with h | h
  · cases hv : v.ownBlock with
    | none => exact .inl rfl
    | some b => exact .inr fun e => by rw [h] at e; cases e
  · cases hv : v.ownBlock with
    | none => exact .inl rfl
    | some b => exact .inr fun e => h (e.symm.trans hv.symm).symm.symm
theorem Dis.set_ {cs : List Value} {k : Nat} {v : Value} (h : Dis cs) (hk : k < cs.length) (hv : ∀ i, i < cs.length → i ≠ k → Apart (gv cs i) v) : Dis (cs.set k v) := by
  intro i j hi hj hne
  rw [List.length_set] at hi hj
  rw [gv_set hk, gv_set hk]
  by_cases e1 : k = i
  · subst e1
    rw [if_pos rfl, if_neg (fun e => hne e)]
    exact (hv j hj (fun e => hne e.symm)).symm
  · rw [if_neg e1]
    by_cases e2 : k = j
    · subst e2
      rw [if_pos rfl]
      exact hv i hi (fun e => e1 e.symm)
    · rw [if_neg e2]
      exact h i j hi hj hne
theorem row_len {E : TypeId} {w : World} {lo size n : Nat} {v : Value} {cs : List Value} (h : w.ownsRow lo E size v n cs) : cs.length = n * size := h.1
theorem row_cell {E : TypeId} {w : World} {lo size n c g : Nat} {cs : List Value} (h : w.ownsRow lo E size (.slice (some ⟨g, 0, none⟩) n c) n cs) {j : Nat} (hj : j < n * size) : w.cell? ⟨g, j, none⟩ = some (gv cs j) := by
  rw [h.cellAt j hj, gv_some (by rw [h.1]; exact hj)]
theorem row_below {E : TypeId} {w w' : World} {lo size n : Nat} {v : Value} {cs : List Value} (h : w.ownsRow lo E size v n cs) (hb : Below w.heap.size w w') : w'.ownsRow lo E size v n cs :=
  World.ownsRow.kept h (row := none) ⟨hb.os, hb.tape, hb.output, hb.size, fun k hk _ => hb.block k hk⟩ (by cases v.ownBlock <;> simp)
theorem row_more {E : TypeId} {w : World} {lo lo' size n : Nat} {v : Value} {cs : List Value} (h : w.ownsRow lo E size v n cs) (hl : lo' ≤ lo) : w.ownsRow lo' E size v n cs := by
  refine ⟨h.1, ?_⟩
  rcases h.2 with h1 | ⟨g, cap, cur, h1, h2, h3⟩
  · exact .inl h1
  · exact .inr ⟨g, cap, cur, h1, by omega, h3⟩
theorem row_form {E : TypeId} {w : World} {lo size n : Nat} {v : Value} {cs : List Value} (h : w.ownsRow lo E size v n cs) : ∃ A c, v = .slice A n c ∧ n ≤ c ∧ c ≤ 9223372036854775807 ∧ (0 < n → ∃ g, A = some ⟨g, 0, none⟩) := by
  rcases h.2 with ⟨rfl, hn⟩ | ⟨g, cap, cur, rfl, _, _, h1, h2, _⟩
  · exact ⟨none, 0, by rw [hn], by omega, by omega, fun h => by omega⟩
  · exact ⟨_, _, rfl, h1, by unfold maxLen at h2; omega, fun _ => ⟨g, rfl⟩⟩
theorem OL.nil {E : TypeId} {w : World} {lo : Nat} {n : Nat} {v : Value} (hv : v = .slice none 0 0) : OL E w lo (List.replicate n v) (fun _ => []) := by
  intro i hi
  rw [List.length_replicate] at hi
  rw [gv_get (by simpa using hi), List.getElem_replicate, hv]
  exact OI.nil _ _ _
theorem Dis.nil {n : Nat} : Dis (List.replicate n (.slice none 0 0)) := by
  intro i j hi _ _
  rw [List.length_replicate] at hi
  rw [gv_get (by simpa using hi), List.getElem_replicate]
  exact .inl rfl

/-! ### what is left of a purse of l when t is taken -/
end Go.Proofs.YtkhkdnmpbfmmeaaDoor
namespace Go.Proofs.YtkhkdnmpbfmmeaaDoor
open Go.RowKit

def inR (x lo hi : Int) : Bool := decide (lo ≤ x ∧ x ≤ hi)
def eqL (xs ys : List Int) : Bool := decide (xs = ys)
theorem eqL_of {xs ys : List Int} {n : Nat} (h1 : xs.length = n) (h2 : ys.length = n) (h : ∀ j, j < n → gi xs j = gi ys j) : eqL xs ys = true :=
  decide_eq_true (gi_ext (h1.trans h2.symm) fun j hj => h j (by omega))
theorem eqL_ne {xs ys : List Int} {k : Nat} (h : gi xs k ≠ gi ys k) : eqL xs ys = false := by
  refine decide_eq_false ?_
  rintro rfl
  exact h rfl
theorem eqL_len {xs ys : List Int} (h : xs.length ≠ ys.length) : eqL xs ys = false := by
  refine decide_eq_false ?_
  rintro rfl
  exact h rfl
set_option maxHeartbeats 400000 in
theorem eqInts (A B : Option Addr) (n m c d : Nat) (xs ys : List Int) (w : World) (ha : RI w A n c xs) (hb : RI w B m d ys) :
    Calls Tryd.prog 20 #[.slice A n c, .slice B m d] w fun e w' => e = .returned (.bool (eqL xs ys)) ∧ Qt w w' := by
  have b1 := ha.cap; have b2 := ha.top; have b3 := hb.cap; have b4 := hb.top
  by_cases hnm : n = m
  · subst hnm
    have hnn : ((n : Int) != (n : Int)) = false := by simp
    go_enter Tryd.func20, Tryd.ntmps20
    go_wp2
    go_loopw [5] (fun i wr => ∃ k : Nat, k ≤ n ∧ i = .int .i64 k ∧ (∀ j, j < k → gi xs j = gi ys j) ∧ ∃ q, wr = w.drewN q) (fun i _ => n - (intOf i).toNat)
    case atStart => exact ⟨0, Nat.zero_le _, rfl, by omega, 0, rfl⟩
    case round =>
      obtain ⟨k, hk, rfl, hall, q, rfl⟩ := hrel
      by_cases hlt : k < n
      · obtain ⟨b, off, rfl, hc1⟩ := ha.at_ hlt
        obtain ⟨b', off', rfl, hc2⟩ := hb.at_ hlt
        have hki : (k : Int) < (n : Int) := by omega
        have hk0 : (0 : Int) ≤ (k : Int) := by omega
        by_cases he : gi xs k = gi ys k
        · have H := Lib.hid he
          have hne : (gi xs k != gi ys k) = false := by simp [he]
          clear he
          go_wp2
          go_quiet (fail)
          go_wp2
          go_roundw
          case rel => exact ⟨k + 1, by omega, by go_num, all_succ hall H.out, _, rfl⟩
          case measure => simp [intOf]; omega
        · have H := Lib.hid he
          have hne : (gi xs k != gi ys k) = true := by simp [he]
          clear he
          go_wp2
          go_quiet (fail)
          go_wp2
          go_ret
          exact ⟨ret_b (eqL_ne H.out).symm, Qt.drew2 _ _⟩
      · go_wp2
        go_ret
        obtain rfl : k = n := by omega
        exact ⟨ret_b (eqL_of ha.1 hb.1 hall).symm, _, rfl⟩
  · have hnn : ((n : Int) != (m : Int)) = true := by simp; omega
    have H := Lib.hid hnm
    clear hnm
    go_enter Tryd.func20, Tryd.ntmps20
    go_wp2
    go_ret
    exact ⟨ret_b (eqL_len (by rw [ha.1, hb.1]; exact H.out)).symm, Qt.refl _⟩



theorem l1In (x lo hi : Int) (w : World) :
    Calls Tryd.prog 61 #[.int .i64 x, .int .i64 lo, .int .i64 hi] w fun e w' => e = .returned (.bool (inR x lo hi)) ∧ Qt w w' := by
  by_cases h1 : lo ≤ x
  · by_cases h2 : x ≤ hi
    · have H := Lib.hid (show inR x lo hi = true from decide_eq_true ⟨h1, h2⟩)
      go_enter Tryd.func61, Tryd.ntmps61
      go_wp2
      go_ret
      exact ⟨ret_b H.out.symm, Qt.refl _⟩
    · have H := Lib.hid (show inR x lo hi = false from decide_eq_false fun h => h2 h.2)
      go_enter Tryd.func61, Tryd.ntmps61
      go_wp2
      go_ret
      exact ⟨ret_b H.out.symm, Qt.refl _⟩
  · have H := Lib.hid (show inR x lo hi = false from decide_eq_false fun h => h1 h.1)
    go_enter Tryd.func61, Tryd.ntmps61
    go_wp2
    go_ret
    exact ⟨ret_b H.out.symm, Qt.refl _⟩

end Go.Proofs.YtkhkdnmpbfmmeaaDoor
