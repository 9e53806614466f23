/- Texts that the proof reaches: TxtS, TxtJ, TxtC, TxtL, Fn5, TextP, Tvx, More, Line, VtxT, Vws, PlanT, Bytes, Two, AnsT, LinT, HeadT, Txg, TwoA. -/
import Derived.Test.YtkhkdnmpbfmmeaaGreatDoorBn3
import Derived.Deep.RegionHeld3
import Derived.Lib.AppendStr
import Derived.Lib.BufferRead
import Derived.StillTailTactics
import Derived.Shelf.Small.Wraps
import Derived.Deep.DeepCutAuto
namespace Go.Proofs.YtkhkdnmpbfmmeaaGreatDoor
open Go.RowKit

/-- the table of the powers of ten stands where start-up laid it -/
def Tab (w : World) : Prop := Lib.TabIs Tryz.prog w "internal/strconv.uint64pow10" .u64 Lib.pow10Tab
theorem Tab.below {w w' : World} (h : Tab w) (hb : Below w.heap.size w w') : Tab w' := (Lib.tabBelow_of_tabIs h) w' hb
theorem Tab.drewN {w : World} (h : Tab w) (q : Nat) : Tab (w.drewN q) := h.below (below_drewN (Below.refl _ _) q)

theorem formatInt (u : Nat) (w : World) (hu : u < 1000000000) (ht : Tab w) :
    Calls Tryz.prog 43 #[.int .i64 (u : Int), .int .i64 10] w fun e w' => e = .returned (.string (tx (Lib.decDigits u))) ∧ Below w.heap.size w w' := by
  have hc := Any.strconv_FormatInt_10 Tryz.lFormat (u : Int) (by omega) (by omega) w ht
  change Calls Tryz.prog 43 _ _ _ at hc
  refine hc.mono ?_
  rintro e w' ⟨he, k, os, rfl⟩
  refine ⟨by rw [he, itoa_nat]; rfl, Lib.below_grow _ _ (Nat.le_refl _) k os⟩

theorem decimal (u : Nat) (w : World) (hu : u < 1000000000) (B : Nat) (hB : B ≤ w.heap.size) (ht : Tab w) :
    Calls Tryz.prog 20 #[.int .i64 (u : Int)] w fun e w' => e = .returned (.string (tx (Lib.decDigits u))) ∧ Below B w w' := by
  go_enter Tryz.func20, Tryz.ntmps20
  go_wp2_with (go_at_call 43; refine (formatInt _ _ hu ht).mono ?_; rintro e w' ⟨rfl, hb⟩)
  go_ret
  exact ⟨rfl, hb.mono hB⟩

/-- the mark of an entry of a plan -/
def mkT (u : Int) : List UInt8 := if u = -1 then [45] else Lib.decDigits u.toNat
theorem entryText (u : Int) (w : World) (h0 : -1 ≤ u) (h1 : u < 1000000000) (B : Nat) (hB : B ≤ w.heap.size) (ht : Tab w) :
    Calls Tryz.prog 36 #[.int .i64 u] w fun e w' => e = .returned (.string (tx (mkT u))) ∧ Below B w w' := by
  by_cases h : u = -1
  · have E := Lib.hid (show mkT u = [45] from if_pos h)
    have h' : (u == -1) = true := by simp [h]
    clear h
    go_enter Tryz.func36, Tryz.ntmps36
    go_wp2
    go_ret
    exact ⟨by rw [E.out]; rfl, Below.refl _ _⟩
  · have E := Lib.hid (show mkT u = Lib.decDigits u.toNat from if_neg h)
    have h' : (u == -1) = false := by simp [h]
    obtain ⟨k, rfl⟩ := Int.eq_ofNat_of_zero_le (show 0 ≤ u by omega)
    have HK := Lib.hid (show k < 1000000000 by omega)
    clear h h1 h0
    go_enter Tryz.func36, Tryz.ntmps36
    go_wp2_with (go_at_call 20; refine (decimal _ _ HK.out _ hB ht).mono ?_; rintro e w' ⟨rfl, hb⟩)
    go_ret
    exact ⟨by rw [E.out]; rfl, hb⟩
/-! ### rows of texts -/
def gt (xs : List ByteArray) (i : Nat) : ByteArray := xs.getD i ByteArray.empty
theorem gt_get {xs : List ByteArray} {i : Nat} (h : i < xs.length) : gt xs i = xs[i] := by simp [gt, h]
theorem gt_some {xs : List ByteArray} {i : Nat} (h : i < xs.length) : xs[i]? = some (gt xs i) := by simp [gt, h]
theorem gt_take {xs : List ByteArray} {n i : Nat} (h : i < n) : gt (xs.take n) i = gt xs i := by simp [gt, h]
/-- a slice of texts that reads as this list -/
def RS (w : World) (A : Option Addr) (n c : Nat) (xs : List ByteArray) : Prop :=
  xs.length = n ∧ (n ≤ c ∧ c ≤ 9223372036854775807) ∧ ∀ i, i < n → ∃ b off, A = some ⟨b, off, none⟩ ∧ w.cell? ⟨b, off + i, none⟩ = some (.string (gt xs i))
section
variable {w w' : World} {A : Option Addr} {n c : Nat} {xs : List ByteArray}
theorem RS.len (h : RS w A n c xs) : xs.length = n := h.1
theorem RS.cap (h : RS w A n c xs) : n ≤ c := h.2.1.1
theorem RS.top (h : RS w A n c xs) : c ≤ 9223372036854775807 := h.2.1.2
theorem RS.at_ (h : RS w A n c xs) {i : Nat} (hi : i < n) : ∃ b off, A = some ⟨b, off, none⟩ ∧ w.cell? ⟨b, off + i, none⟩ = some (.string (gt xs i)) := h.2.2 i hi
theorem RS.keep (h : RS w A n c xs) (k : Keeps w w') : RS w' A n c xs :=
  ⟨h.1, h.2.1, fun i hi => by obtain ⟨b, off, e, hc⟩ := h.2.2 i hi; exact ⟨b, off, e, k _ _ hc⟩⟩
theorem RS.take (h : RS w A n c xs) {k : Nat} (hk : k ≤ n) : RS w A k c (xs.take k) :=
  ⟨by rw [List.length_take, h.1]; omega, ⟨by have := h.cap; omega, h.top⟩, fun i hi => by obtain ⟨b, off, e, hc⟩ := h.2.2 i (by omega); exact ⟨b, off, e, by rw [gt_take hi]; exact hc⟩⟩
end
/-- a row of texts of the call's own -/
def OS (w : World) (lo : Nat) (v : Value) (xs : List ByteArray) : Prop := w.ownsRow lo 9 1 v xs.length (xs.map Value.string)
section
variable {w w' : World} {lo : Nat} {v : Value} {xs : List ByteArray}
theorem OS.form (h : OS w lo v xs) : ∃ A c, v = .slice A xs.length c := by
  rcases h.2 with ⟨rfl, hn⟩ | ⟨g, cap, cur, rfl, _⟩
  · exact ⟨none, 0, by rw [hn]⟩
  · exact ⟨_, _, rfl⟩
theorem OS.reads {n c : Nat} {A : Option Addr} (h : OS w lo (.slice A n c) xs) : RS w A n c xs := by
  have hn : n = xs.length ∧ n ≤ c ∧ c ≤ 9223372036854775807 := by
    rcases h.2 with ⟨h1, hn⟩ | ⟨g, cap, cur, h1, _, _, h2, h3, _⟩
    · injection h1 with _ h2 h3; omega
    · injection h1 with _ h4 h5; unfold maxLen at h3; omega
  obtain ⟨hn, hc⟩ := hn
  subst hn
  refine ⟨rfl, hc, fun i hi => ?_⟩
  rcases h.2 with ⟨h1, hn⟩ | ⟨g, cap, cur, h1, _⟩
  · omega
  · injection h1 with h1 h2 h3
    subst h1
    subst h3
    refine ⟨g, 0, rfl, ?_⟩
    have := h.cellAt i (by omega)
    rw [Nat.zero_add, this, List.getElem?_map, gt_some hi]
    rfl
theorem OS.below (h : OS w lo v xs) (hb : Below w.heap.size w w') : OS w' lo v xs := row_below h hb
theorem OS.more {lo' : Nat} (h : OS w lo v xs) (hl : lo' ≤ lo) : OS w lo' v xs := row_more h hl
theorem OS.lt (h : OS w lo v xs) : ∀ k, v.ownBlock = some k → lo ≤ k ∧ k < w.heap.size := World.ownsRow.lt h
end
theorem OS.nil (w : World) (lo : Nat) : OS w lo (.slice none 0 0) [] := World.ownsRow_nil w lo _ 1
theorem OS.app {w : World} {lo n : Nat} {v : Value} {xs : List ByteArray} {x : ByteArray} (h : w.ownsRow lo 9 1 v (n + 1) (xs.map Value.string ++ [.string x])) (hn : xs.length = n) : OS w lo v (xs ++ [x]) := by
  unfold OS
  rw [List.length_append, List.length_singleton, hn, List.map_append]
  exact h
theorem infoS : (Tryz.prog.info? 9).map (fun i => (i.zero, i.size, i.bytes)) = some (some (.string { data := #[] }), 1, 16) := by kernel_rfl
end Go.Proofs.YtkhkdnmpbfmmeaaGreatDoor
namespace Go.Proofs.YtkhkdnmpbfmmeaaGreatDoor
open Go.RowKit

/-- the texts joined -/
def jn (xs : List ByteArray) (sp : List UInt8) : List UInt8 := Lib.join (xs.map (·.data.toList)) sp
theorem jn_take {xs : List ByteArray} {sp : List UInt8} {k : Nat} (h : k < xs.length) :
    jn (xs.take (k + 1)) sp = (if k = 0 then [] else jn (xs.take k) sp ++ sp) ++ (gt xs k).data.toList := by
  unfold jn
  rw [List.map_take, List.map_take, join_take _ _ _ (by simpa using h), gt_get h]
  simp
theorem jn_len {xs : List ByteArray} {sp : List UInt8} (hsp : sp.length ≤ 10) : ∀ k, k ≤ xs.length → (∀ i, i < xs.length → (gt xs i).size ≤ 1000) → (jn (xs.take k) sp).length ≤ 1010 * k
  | 0, _, _ => by simp [jn, Lib.join]
  | k + 1, hk, h => by
    have ih := jn_len hsp k (by omega) h
    have hx := h k (by omega)
    rw [Lib.size_eq] at hx
    rw [jn_take (by omega)]
    by_cases e : k = 0
    · subst e
      rw [if_pos rfl]
      simp at hx ⊢
      omega
    · rw [if_neg e, List.length_append, List.length_append]
      omega

section
/-- append of one text to a row of the call's own: the literal's block lies at the world's end -/
theorem wpList_pushS {ops : Array Oper} {rest : List Oper} {o : Oper} {a : Act} {Q : Exit → Act → World → Prop} (hgd : o.guard = none) (s x : Operand)
    (ho : o.op = .call { callee := .builtin .append, args := #[s, x], argTypes := #[37, 37] })
    (w : World) (lo : Nat) (v : Value) (xs : List ByteArray) (hs : a.eval s = v) (hown : OS w lo v xs) (y : ByteArray) (hx : a.eval x = .slice (some ⟨w.heap.size, 0, none⟩) 1 1)
    (hn : xs.length ≤ 4194304) (hlo : lo ≤ w.heap.size)
    (h : ∀ v' w', OS w' lo v' (xs ++ [y]) → Below lo w w' → Chg (fun z => v.ownBlock = some z) w w' → (∀ b, v'.ownBlock = some b → v.ownBlock = some b ∨ w.heap.size ≤ b) →
      wpList Tryz.prog ops Q rest (a.put o.dst v') w') : wpList Tryz.prog ops Q (o :: rest) a (w.alloc (.cells #[.string y] 9)) := by
  obtain ⟨i0, hi0, hz0, hz1, hz2⟩ := info_parts infoS
  have hba : Below w.heap.size w (w.alloc (.cells #[.string y] 9)) := below_alloc (Nat.le_refl _) (Below.refl _ _)
  refine wpList_push _ hgd s x 37 ho lo 9 i0 (.string { data := #[] }) 16 Tryz.underlying37 hi0 hz0 hz1 hz2 rfl v xs.length (xs.map Value.string) hs (row_below hown hba) w.heap.size (.string y) hx ((Box.new w _ _).cell 0) rfl hn (by decide) (by simp; omega) ?_
  intro g c w' r hg hat hlt
  have hc := Chg.of_grown hg
  refine h _ w' (OS.app r rfl) ((hba.mono hlo).trans (hc.below (by simp; omega) (fun z hz => (hown.lt z hz).1))) ?_ ?_
  · exact ((Chg.refl (fun _ => False) w).alloc _).trans hc (fun _ h => h.elim) (fun _ h => h)
  · intro b hb
    simp [Value.ownBlock] at hb
    subst hb
    rcases hat with h | h
    · exact .inl h
    · right; simp at h; omega
end
theorem OS.empty {w : World} {B : Nat} (hB : B ≤ w.heap.size) : OS (w.alloc (.cells #[] 9)) B (.slice (some ⟨w.heap.size, 0, none⟩) 0 0) [] := World.ownsRow_lit w #[] 0 hB (by decide) rfl

def nums (us : List Int) : List ByteArray := us.map fun u => tx (Lib.decDigits u.toNat)
end Go.Proofs.YtkhkdnmpbfmmeaaGreatDoor
namespace Go.Proofs.YtkhkdnmpbfmmeaaGreatDoor
open Go.RowKit

/-- what spec.l1Split has when it looks at place k: the pieces so far, the place behind the last cut -/
def SpI (c : UInt8) (l : List UInt8) (D : List (List UInt8)) (f k : Nat) : Prop :=
  D.length ≤ k ∧ ((k ≤ l.length ∧ f ≤ k ∧ D ++ spl c (l.drop f) = spl c l ∧ c ∉ (l.drop f).take (k - f)) ∨ (k = l.length + 1 ∧ D = spl c l))
theorem SpI.go {c : UInt8} {l : List UInt8} {D : List (List UInt8)} {f k : Nat} (h : SpI c l D f k) (hk : k < l.length) (hne : l[k] ≠ c) : SpI c l D f (k + 1) := by
  obtain ⟨h0, ⟨h1, h2, h3, h4⟩ | ⟨h1, _⟩⟩ := h
  · refine ⟨by omega, .inl ⟨hk, by omega, h3, ?_⟩⟩
    rw [show k + 1 - f = (k - f) + 1 by omega, List.take_succ_eq_append_getElem (by rw [List.length_drop]; omega)]
    intro hm
    rcases List.mem_append.1 hm with hm | hm
    · exact h4 hm
    · rw [List.mem_singleton] at hm
      rw [List.getElem_drop] at hm
      exact hne (by rw [hm]; congr 1; omega)
  · omega
theorem SpI.cut {c : UInt8} {l : List UInt8} {D : List (List UInt8)} {f k : Nat} (h : SpI c l D f k) (hk : k < l.length) (he : l[k] = c) : SpI c l (D ++ [(l.drop f).take (k - f)]) (k + 1) (k + 1) := by
  obtain ⟨h0, ⟨h1, h2, h3, h4⟩ | ⟨h1, _⟩⟩ := h
  · refine ⟨by rw [List.length_append]; simp; omega, .inl ⟨hk, Nat.le_refl _, ?_, by simp⟩⟩
    rw [← h3, List.append_assoc]
    congr 1
    have e1 : l.drop f = (l.drop f).take (k - f) ++ c :: l.drop (k + 1) := by
      have e2 := (List.take_append_drop (k - f) (l.drop f)).symm
      rw [List.drop_drop, show f + (k - f) = k by omega, List.drop_eq_getElem_cons hk, he] at e2
      exact e2
    conv => rhs; rw [e1]
    rw [spl_hit c _ _ h4]
    rfl
  · omega
theorem SpI.last {c : UInt8} {l : List UInt8} {D : List (List UInt8)} {f : Nat} (h : SpI c l D f l.length) : SpI c l (D ++ [(l.drop f).take (l.length - f)]) (l.length + 1) (l.length + 1) := by
  obtain ⟨h0, ⟨h1, h2, h3, h4⟩ | ⟨h1, _⟩⟩ := h
  · refine ⟨by rw [List.length_append]; simp; omega, .inr ⟨rfl, ?_⟩⟩
    rw [List.take_of_length_le (by rw [List.length_drop]; exact Nat.le_refl _)] at h4 ⊢
    rw [spl_none c _ h4] at h3
    exact h3
  · omega
theorem SpI.end_ {c : UInt8} {l : List UInt8} {D : List (List UInt8)} {f k : Nat} (h : SpI c l D f k) (hk : l.length < k) : D = spl c l := by
  obtain ⟨h0, ⟨h1, _⟩ | ⟨_, h⟩⟩ := h
  · omega
  · exact h
theorem SpI.le {c : UInt8} {l : List UInt8} {D : List (List UInt8)} {f k : Nat} (h : SpI c l D f k) (hk : k ≤ l.length) : f ≤ k ∧ D.length ≤ k := by
  obtain ⟨h0, ⟨_, h1, _⟩ | ⟨h1, _⟩⟩ := h
  · exact ⟨h1, h0⟩
  · omega

end Go.Proofs.YtkhkdnmpbfmmeaaGreatDoor
namespace Go.Proofs.YtkhkdnmpbfmmeaaGreatDoor
open Go.RowKit

/-- the library's own variable holds some number -/
def Max (w : World) : Prop := ∃ m, w.cell? ⟨2, 0, none⟩ = some (.int .i64 m)
theorem Max.keep {w w' : World} (h : Max w) (k : Keeps w w') : Max w' := by
  obtain ⟨m, hm⟩ := h
  exact ⟨m, k _ _ hm⟩

theorem stringsSplit (s : ByteArray) (c : UInt8) (w : World) (hm : Max w) (hs : s.size ≤ 4000000) :
    Calls Tryz.prog 32 #[.string s, .string ⟨#[c]⟩] w fun e w' => ∃ v, e = .returned v ∧ OS w' w.heap.size v (splT c s) ∧ Below w.heap.size w w' := by
  obtain ⟨m, hm⟩ := hm
  have hc := Any.strings_Split { Tryz.lSplit with } Tryz.lSplit.i9 s ⟨#[c]⟩ m w (by omega) hm (Nat.le_refl 1)
  change Calls Tryz.prog 32 _ _ _ at hc
  refine hc.mono ?_
  rintro e w' ⟨he, rfl⟩
  have hl := Lib.splitB_all ⟨#[c]⟩ (Nat.le_refl 1) 0 _ s rfl
  have hle := Lib.countB_le ⟨#[c]⟩ (Nat.le_refl 1) s.size s (Nat.le_refl _)
  rw [splitB_T] at hl ⊢
  refine ⟨_, he, ?_, below_alloc (Nat.le_refl _) (Below.refl _ _)⟩
  have := World.ownsRow_lit (e := 9) (base := w.heap.size) (size := 1) w ((splT c s).map Value.string).toArray (splT c s).length (Nat.le_refl _) (by unfold maxLen; omega) (by simp)
  rw [← hl]
  rw [List.toList_toArray] at this
  exact this

theorem stringsJoin (A : Option Addr) (n c : Nat) (xs : List ByteArray) (sp : List UInt8) (w : World) (ha : RS w A n c xs) (hx : ∀ i, i < xs.length → (gt xs i).size ≤ 1000) (hsp : sp.length ≤ 10) (hn : n ≤ 1000) :
    Calls Tryz.prog 38 #[.slice A n c, .string (tx sp)] w fun e w' => e = .returned (.string (tx (jn xs sp))) ∧ Below w.heap.size w w' := by
  have hl := jn_len (sp := sp) hsp xs.length (Nat.le_refl _) hx
  rw [List.take_length] at hl
  obtain rfl := ha.len
  cases hxs : xs with
  | nil =>
    have hc := Any.strings_Join_none Tryz.lJoin Tryz.xJoin A c (tx sp) w
    change Calls Tryz.prog 38 _ _ _ at hc
    refine hc.mono ?_
    rintro e w' ⟨he, rfl⟩
    exact ⟨he, Below.refl _ _⟩
  | cons x r =>
    have h0 : 0 < xs.length := by rw [hxs]; simp
    obtain ⟨b, off, rfl, hb⟩ := ha.at_ h0
    have hbk : b < w.heap.size := by simpa using World.block_lt_of_cell? w _ hb
    have hc := Any.strings_Join Tryz.lJoin Tryz.xJoin b off c xs (tx sp) w (fun j y hj => by
      have hjl : j < xs.length := by
        rcases Nat.lt_or_ge j xs.length with h | h
        · exact h
        · rw [List.getElem?_eq_none h] at hj; cases hj
      obtain ⟨b', off', e, hcell⟩ := ha.at_ hjl
      injection e with e
      injection e with e1 e2
      subst e1; subst e2
      rw [hcell]
      rw [gt_some hjl] at hj
      injection hj with hj
      rw [hj]) hbk (by omega) ha.cap (by rw [tx_data]; show (jn xs sp).length ≤ _; omega)
    change Calls Tryz.prog 38 _ _ _ at hc
    rw [← hxs]
    refine hc.mono ?_
    rintro e w' ⟨he, hb⟩
    rw [tx_data] at he
    exact ⟨he, hb⟩
end Go.Proofs.YtkhkdnmpbfmmeaaGreatDoor
namespace Go.Proofs.YtkhkdnmpbfmmeaaGreatDoor
open Go.RowKit

def isPl (x : Int) : Bool := decide (x = 0 ∨ x = 1)
def entOk (p : List Int) : Bool := decide (p.length ≤ 256 ∧ ∀ u ∈ p, -1 ≤ u ∧ u < 256)
def shapeOk (won plan : List Int) : Bool := decide (won.length ≤ 256 ∧ won.length = plan.length ∧ (∀ x ∈ won, x = 0 ∨ x = 1) ∧ ∀ u ∈ plan, -1 ≤ u ∧ u < 256)

theorem isPlayer (x : Int) (w : World) :
    Calls Tryz.prog 54 #[.int .i64 x] w fun e w' => e = .returned (.bool (isPl x)) ∧ Qt w w' := by
  by_cases h0 : x = 0
  · have E := Lib.hid (show isPl x = true from decide_eq_true (.inl h0))
    have h : (x == 0) = true := by simp [h0]
    clear h0
    go_enter Tryz.func54, Tryz.ntmps54
    go_wp2
    go_ret
    exact ⟨ret_b E.out.symm, Qt.refl _⟩
  · have h : (x == 0) = false := by simp [h0]
    by_cases h1 : x = 1
    · have E := Lib.hid (show isPl x = true from decide_eq_true (.inr h1))
      have h' : (x == 1) = true := by simp [h1]
      clear h0 h1
      go_enter Tryz.func54, Tryz.ntmps54
      go_wp2
      go_ret
      exact ⟨ret_b E.out.symm, Qt.refl _⟩
    · have E := Lib.hid (show isPl x = false from decide_eq_false (by omega))
      have h' : (x == 1) = false := by simp [h1]
      clear h0 h1
      go_enter Tryz.func54, Tryz.ntmps54
      go_wp2
      go_ret
      exact ⟨ret_b E.out.symm, Qt.refl _⟩

theorem areEntries (A : Option Addr) (n c : Nat) (xs : List Int) (w : World) (ha : RI w A n c xs) :
    Calls Tryz.prog 37 #[.slice A n c] w fun e w' => e = .returned (.bool (entOk xs)) ∧ Qt w w' := by
  have b1 := ha.cap; have b2 := ha.top
  go_enter Tryz.func37, Tryz.ntmps37
  go_wp2
  go_loop [7] (fun i => ∃ k : Nat, k ≤ n ∧ i = .int .i64 k ∧ (∀ j, j < k → -1 ≤ gi xs j ∧ gi xs j < 256)) (fun i => n - (intOf i).toNat)
  case atStart => exact ⟨0, Nat.zero_le _, rfl, by omega⟩
  case round =>
    obtain ⟨k, hk, rfl, hall⟩ := hrel
    have HA := Lib.hid hall
    clear hall
    by_cases hlt : k < n
    · obtain ⟨b, off, rfl, hc1⟩ := ha.at_ hlt
      have hbad : ¬ (-1 ≤ gi xs k ∧ gi xs k < 256) → entOk xs = false := fun hb => decide_eq_false fun h => hb (h.2 _ (gi_mem (by rw [ha.len]; exact hlt)))
      by_cases h1 : gi xs k < -1
      · have E := Lib.hid (hbad (by omega))
        clear hbad
        go_wp2
        go_ret
        exact ⟨ret_b E.out.symm, Qt.refl _⟩
      by_cases h2 : 256 ≤ gi xs k
      · have E := Lib.hid (hbad (by omega))
        clear hbad
        go_wp2
        go_ret
        exact ⟨ret_b E.out.symm, Qt.refl _⟩
      clear hbad
      have h3 : -1 ≤ gi xs k := by omega
      have h4 : gi xs k < 256 := by omega
      go_wp2
      go_round
      case rel => exact ⟨k + 1, by omega, by go_num, all_succ HA.out ⟨h3, h4⟩⟩
      case measure => simp [intOf]; omega
    · obtain rfl : k = n := by omega
      have hall : ∀ u ∈ xs, -1 ≤ u ∧ u < 256 := fun u hu => by
        obtain ⟨i, hi, rfl⟩ := mem_gi hu
        exact HA.out i (by rw [← ha.len]; exact hi)
      by_cases h5 : k ≤ 256
      · have E := Lib.hid (show entOk xs = true from decide_eq_true ⟨by rw [ha.len]; exact h5, hall⟩)
        clear hall
        go_wp2
        go_ret
        exact ⟨ret_b (by rw [E.out]; simp; omega), Qt.refl _⟩
      · have E := Lib.hid (show entOk xs = false from decide_eq_false fun h => h5 (by rw [← ha.len]; exact h.1))
        clear hall
        go_wp2
        go_ret
        exact ⟨ret_b (by rw [E.out]; simp; omega), Qt.refl _⟩

set_option maxHeartbeats 400000 in
theorem isShape (A A' : Option Addr) (n c m d : Nat) (xs ys : List Int) (w : World) (B : Nat) (hB : B ≤ w.heap.size) (ha : RI w A n c xs) (hb : RI w A' m d ys) :
    Calls Tryz.prog 35 #[.agg #[.slice A n c, .slice A' m d]] w fun e w' => e = .returned (.bool (shapeOk xs ys)) ∧ Below B w w' := by
  have b1 := ha.cap; have b2 := ha.top; have b3 := hb.cap; have b4 := hb.top
  by_cases h2 : n = m
  · subst h2
    have h2' : ((n : Int) != (n : Int)) = false := by simp
    have ha' := ha.keep (keeps_alloc w (.cells #[.slice A n c, .slice A' n d] 41))
    have hb' := hb.keep (keeps_alloc w (.cells #[.slice A n c, .slice A' n d] 41))
    by_cases h3 : entOk ys = true
    · have H3 := Lib.hid h3
      go_enter Tryz.func35, Tryz.ntmps35
      go_wp2_with (go_at_call 37; refine (areEntries _ _ _ _ _ hb').mono ?_; rintro e w' ⟨rfl, q, rfl⟩)
      go_loopw [21] (fun i wr => ∃ k : Nat, k ≤ n ∧ i = .int .i64 k ∧ (∀ j, j < k → isPl (gi xs j) = true) ∧ ∃ q, wr = (w.alloc (.cells #[.slice A n c, .slice A' n d] 41)).drewN q) (fun i _ => n - (intOf i).toNat)
      case atStart => exact ⟨0, Nat.zero_le _, rfl, by omega, _, rfl⟩
      case round =>
        obtain ⟨k, hk, rfl, hall, q, rfl⟩ := hrel
        have HA := Lib.hid hall
        clear hall
        by_cases hlt : k < n
        · obtain ⟨b, off, rfl, hc1⟩ := ha'.at_ hlt
          by_cases h4 : isPl (gi xs k) = true
          · go_wp2_with (go_at_call 54; refine (isPlayer _ _).mono ?_; rintro e w' ⟨rfl, q1, rfl⟩)
            go_roundw
            case rel => exact ⟨k + 1, by omega, by go_num, all_succ HA.out h4, _, rfl⟩
            case measure => simp [intOf]; omega
          · replace h4 : isPl (gi xs k) = false := by simpa using h4
            have E := Lib.hid (show shapeOk xs ys = false from decide_eq_false fun h => of_decide_eq_false h4 (h.2.2.1 _ (gi_mem (by rw [ha.len]; exact hlt))))
            go_wp2_with (go_at_call 54; refine (isPlayer _ _).mono ?_; rintro e w' ⟨rfl, q1, rfl⟩)
            go_ret
            refine ⟨ret_b E.out.symm, ?_⟩
            repeat (first | exact Below.refl _ _ | refine below_drewN ?_ _ | refine below_alloc hB ?_)
        · obtain rfl : k = n := by omega
          have E := Lib.hid (show shapeOk xs ys = true from decide_eq_true ⟨by have := (of_decide_eq_true H3.out).1; rw [hb.len] at this; rw [ha.len]; omega, by rw [ha.len, hb.len], fun x hx => by
            obtain ⟨i, hi, rfl⟩ := mem_gi hx
            exact of_decide_eq_true (HA.out i (by rw [← ha.len]; exact hi)), (of_decide_eq_true H3.out).2⟩)
          go_wp2
          go_ret
          refine ⟨ret_b E.out.symm, ?_⟩
          repeat (first | exact Below.refl _ _ | refine below_drewN ?_ _ | refine below_alloc hB ?_)
    · replace h3 : entOk ys = false := by simpa using h3
      have E := Lib.hid (show shapeOk xs ys = false from decide_eq_false fun h => of_decide_eq_false h3 ⟨by rw [← h.2.1]; exact h.1, h.2.2.2⟩)
      go_enter Tryz.func35, Tryz.ntmps35
      go_wp2_with (go_at_call 37; refine (areEntries _ _ _ _ _ hb').mono ?_; rintro e w' ⟨rfl, q, rfl⟩)
      go_ret
      refine ⟨ret_b E.out.symm, ?_⟩
      repeat (first | exact Below.refl _ _ | refine below_drewN ?_ _ | refine below_alloc hB ?_)
  · have h2' : ((n : Int) != (m : Int)) = true := by simp; omega
    have E := Lib.hid (show shapeOk xs ys = false from decide_eq_false fun h => h2 (by rw [← ha.len, ← hb.len]; exact h.2.1))
    clear h2
    go_enter Tryz.func35, Tryz.ntmps35
    go_wp2
    go_ret
    refine ⟨ret_b E.out.symm, ?_⟩
    repeat (first | exact Below.refl _ _ | refine below_drewN ?_ _ | refine below_alloc hB ?_)

end Go.Proofs.YtkhkdnmpbfmmeaaGreatDoor
namespace Go.Proofs.YtkhkdnmpbfmmeaaGreatDoor
open Go.RowKit

theorem take_snocL {α : Type} {l : List α} {k : Nat} (h : k < l.length) : l.take (k + 1) = l.take k ++ [l[k]] := List.take_succ_eq_append_getElem h
/-- the entries of the words of a text -/
def ents (ws : List (List UInt8)) : List Int := ws.map unm
def tplOk (s : List UInt8) : Bool := decide (s.length ≤ 3000 ∧ (s = [] ∨ ((spl 32 s).length ≤ 256 ∧ ∀ x ∈ spl 32 s, -1 ≤ unm x)))
/-- the plan of a text -/
def tplD (s : List UInt8) : List Int := if tplOk s = true ∧ s ≠ [] then ents (spl 32 s) else []
theorem tplD_no {s : List UInt8} (h : tplOk s = false) : tplD s = [] := by unfold tplD; rw [h]; simp
theorem tplD_nil : tplD [] = [] := by unfold tplD; simp
theorem tplD_yes {s : List UInt8} (h : tplOk s = true) (h1 : s ≠ []) : tplD s = ents (spl 32 s) := by unfold tplD; rw [if_pos ⟨h, h1⟩]
theorem tplOk_nil : tplOk [] = true := by decide
theorem unm_le (x : List UInt8) : unm x ≤ 255 := by
  unfold unm
  split
  · omega
  · split
    · have := (rdNum_le (by assumption : 0 ≤ rdNum x 255)).1; exact this
    · omega
theorem tplOk_long {s : List UInt8} (h : 3000 < s.length) : tplOk s = false := decide_eq_false fun e => by have := e.1; omega
theorem tplOk_many {s : List UInt8} (h0 : s ≠ []) (h : 256 < (spl 32 s).length) : tplOk s = false := decide_eq_false fun e => by
  rcases e.2 with e | e
  · exact h0 e
  · have := e.1; omega
theorem tplOk_bad {s : List UInt8} (h0 : s ≠ []) {x : List UInt8} (hx : x ∈ spl 32 s) (h : unm x < -1) : tplOk s = false := decide_eq_false fun e => by
  rcases e.2 with e | e
  · exact h0 e
  · have := e.2 x hx; omega
theorem tplOk_yes {s : List UInt8} (h1 : s.length ≤ 3000) (h2 : (spl 32 s).length ≤ 256) (h3 : ∀ x ∈ spl 32 s, -1 ≤ unm x) : tplOk s = true := decide_eq_true ⟨h1, .inr ⟨h2, h3⟩⟩
theorem splT_len (c : UInt8) (s : ByteArray) : (splT c s).length = (spl c s.data.toList).length := by unfold splT; simp
/-- piece i -/
def gx (l : List (List UInt8)) (i : Nat) : List UInt8 := l.getD i []
theorem gx_get {l : List (List UInt8)} {i : Nat} (h : i < l.length) : gx l i = l[i] := by simp [gx, h]
theorem gt_splT (c : UInt8) (s : ByteArray) (i : Nat) : gt (splT c s) i = tx (gx (spl c s.data.toList) i) := by
  unfold gt splT gx
  rw [List.getD_eq_getElem?_getD, List.getD_eq_getElem?_getD, List.getElem?_map]
  cases (spl c s.data.toList)[i]? with
  | none => rfl
  | some x => rfl
theorem gtd (c : UInt8) (s : ByteArray) (i : Nat) : (gt (splT c s) i).data.toList = gx (spl c s.data.toList) i := by rw [gt_splT, tx_data]
theorem gx_mem {l : List (List UInt8)} {i : Nat} (h : i < l.length) : gx l i ∈ l := by rw [gx_get h]; exact List.getElem_mem _
theorem gx_all {l : List (List UInt8)} {p : List UInt8 → Prop} (h : ∀ i, i < l.length → p (gx l i)) : ∀ x ∈ l, p x := by
  intro x hx
  obtain ⟨i, hi, rfl⟩ := List.getElem_of_mem hx
  have := h i hi
  rwa [gx_get hi] at this
theorem ents_snoc {l : List (List UInt8)} {k : Nat} (h : k < l.length) : ents (l.take (k + 1)) = ents (l.take k) ++ [unm (gx l k)] := by
  unfold ents
  rw [take_snocL h, List.map_append, gx_get h]
  rfl
theorem rev_unm {l : List UInt8} (h : -1 ≤ unm l) : rev l = unm l := by
  unfold unm at h ⊢
  unfold rev
  split
  · rfl
  · rename_i h1
    rw [if_neg h1] at h
    split at h
    · rename_i h2
      rw [if_pos h2]
      obtain ⟨_, g2, g3⟩ := rdNum_le h2
      rw [rdVal_ok g3, g2]
    · omega
theorem ents_ok {ws : List (List UInt8)} (h : ∀ i, i < ws.length → -1 ≤ unm (gx ws i)) : entOk (ents ws) = decide (ws.length ≤ 256) := by
  unfold entOk ents
  rw [List.length_map]
  by_cases e : ws.length ≤ 256
  · rw [decide_eq_true e]
    refine decide_eq_true ⟨e, fun u hu => ?_⟩
    obtain ⟨x, hx, rfl⟩ := List.mem_map.1 hu
    have h1 := gx_all (p := fun z => -1 ≤ unm z) h x hx
    have h2 := unm_le x
    omega
  · rw [decide_eq_false e]
    exact decide_eq_false (fun h => e h.1)

set_option maxRecDepth 100000 in
set_option maxHeartbeats 1600000 in
theorem implTextPlan (s : ByteArray) (w : World) (B : Nat) (hB : B ≤ w.heap.size) (hM : Max w) :
    Calls Tryz.prog 14 #[.string s] w fun e w' => ∃ v, e = .returned (.tuple #[v, .bool (tplOk s.data.toList)]) ∧ OI 2 w' B v (tplD s.data.toList) ∧ Below B w w' := by
  have HZ := Lib.hid (Lib.size_eq s)
  by_cases h1 : 3000 < s.size
  · have E := Lib.hid (tplOk_long (s := s.data.toList) (by rw [← HZ.out]; exact h1))
    go_enter Tryz.func14, Tryz.ntmps14
    go_wp2
    refine bodyPost_ret (v := .tuple #[.slice none 0 0, .bool false]) (by simp [results, Tryz.results14, go_sem]) rfl ?_
    exact ⟨_, by rw [E.out], by rw [tplD_no E.out]; exact OI.nil _ _ _, Below.refl _ _⟩
  by_cases h0 : s.size < 1
  · have hs0 : s.toList.isEmpty = true := by rw [empty_of h0, Lib.toList_data]; rfl
    have E := Lib.hid (show s.data.toList = [] by rw [empty_of h0])
    clear h0
    go_enter Tryz.func14, Tryz.ntmps14
    go_wp2
    refine bodyPost_ret (v := .tuple #[.slice none 0 0, .bool true]) (by simp [results, Tryz.results14, go_sem]) rfl ?_
    exact ⟨_, by rw [E.out, tplOk_nil], by rw [E.out, tplD_nil]; exact OI.nil _ _ _, Below.refl _ _⟩
  have hs0 : s.toList.isEmpty = false := filled_of h0
  have HN := Lib.hid (show s.data.toList ≠ [] from fun e => h0 (by rw [HZ.out, e]; simp))
  have hs4 : s.size ≤ 4000000 := by omega
  clear h0
  have hM' : Max (w.alloc (.cells #[] 2)) := hM.keep (keeps_alloc _ _)
  go_enter Tryz.func14, Tryz.ntmps14
  go_wp2_with fail
  refine (stringsSplit s 32 _ hM' hs4).mono ?_; rintro e w1 ⟨v, rfl, ho1, hb1⟩
  obtain ⟨A1, c1, rfl⟩ := ho1.form
  have hcap := ho1.reads.cap
  have htop := ho1.reads.top
  have HLn := Lib.hid (splT_len 32 s)
  have hw1 : Below w.heap.size w w1 := below_then hb1 (by simp) (below_alloc (Nat.le_refl _) (Below.refl _ _))
  have hs1 := hw1.size
  have hv0 : OI 2 w1 w.heap.size (.slice (some ⟨w.heap.size, 0, none⟩) 0 0) [] := (OI.empty (Nat.le_refl _)).below hb1
  have hs1' := hb1.size
  have hpl : (splT 32 s).length ≤ 3001 := by
    rw [HLn.out]
    have h2 := spl_length 32 _ s.data.toList (Nat.le_refl _)
    have h3 : ((spl 32 s.data.toList).map (fun x => 1)).sum ≤ ((spl 32 s.data.toList).map (fun x => x.length + 1)).sum := by
      generalize spl 32 s.data.toList = L
      induction L with
      | nil => simp
      | cons x r ih => simp only [List.map_cons, List.sum_cons]; omega
    have h4 : ((spl 32 s.data.toList).map (fun x => 1)).sum = (spl 32 s.data.toList).length := by
      generalize spl 32 s.data.toList = L
      induction L with
      | nil => rfl
      | cons x r ih => simp only [List.map_cons, List.sum_cons, List.length_cons, ih]; omega
    have := HZ.out
    omega
  go_wp2
  go_loopw [4, 18] (fun v i wr => ∃ k : Nat, k ≤ (splT 32 s).length ∧ i = .int .i64 k ∧ (∀ j, j < k → -1 ≤ unm (gx (spl 32 s.data.toList) j)) ∧ OI 2 wr w.heap.size v (ents ((spl 32 s.data.toList).take k)) ∧ Below w.heap.size w wr ∧ OS wr w.heap.size (.slice A1 (splT 32 s).length c1) (splT 32 s)) (fun _ i _ => (splT 32 s).length - (intOf i).toNat)
  case atStart => exact ⟨0, Nat.zero_le _, rfl, by omega, hv0, hw1, ho1.more (by simp)⟩
  case round =>
    obtain ⟨k, hk, rfl, hall, ho, hbr, hrr⟩ := hrel
    have hsz := hbr.size
    have HA := Lib.hid hall
    clear hall
    by_cases hlt : k < (splT 32 s).length
    · obtain ⟨b, off, hA, hc1⟩ := (OS.reads hrr).at_ hlt
      subst hA
      have hlk : k < (spl 32 s.data.toList).length := by rw [← HLn.out]; exact hlt
      have HG := Lib.hid (gtd 32 s k)
      by_cases hu : -1 ≤ unm (gx (spl 32 s.data.toList) k)
      · have HS := Lib.hid (ents_snoc hlk)
        have hll : (ents ((spl 32 s.data.toList).take k)).length ≤ 4194304 := by unfold ents; rw [List.length_map, List.length_take]; omega
        obtain ⟨Av, cv, rfl⟩ := ho.form
        have HU := Lib.hid hu
        have HR := Lib.hid (rev_unm hu)
        have HB := Lib.hid (show reb (gx (spl 32 s.data.toList) k) = true from decide_eq_true hu)
        clear hlk hu
        go_wp2_with (first
          | (go_at_call 34; refine (readEntry _ _).mono ?_; rintro e w2 ⟨rfl, q, rfl⟩; rw [HG.out, HR.out, HB.out])
          | (at_builtin; refine wpList_pushI rfl (.tmp 29) (.tmp 31) rfl (wr.drewN q) w.heap.size (.slice Av (ents ((spl 32 s.data.toList).take k)).length cv) (ents ((spl 32 s.data.toList).take k)) rfl ho _ rfl hll hsz ?_; intro v' w2 ho2 hb2 hc2 hv2))
        go_roundw
        case rel =>
          refine ⟨k + 1, by omega, by go_num, all_succ HA.out HU.out, by rw [HS.out]; exact ho2, (below_drewN hbr q).trans hb2, ?_⟩
          exact row_chg (w := wr.drewN q) hrr hc2 (fun x hx e => own_ne hrr ho (by decide) x hx e)
        case measure => simp [intOf]; omega
      · have E := Lib.hid (tplOk_bad HN.out (gx_mem hlk) (by omega))
        have HB := Lib.hid (show reb (gx (spl 32 s.data.toList) k) = false from decide_eq_false hu)
        clear hu hlk
        go_wp2_with (go_at_call 34; refine (readEntry _ _).mono ?_; rintro e w2 ⟨rfl, q, rfl⟩; rw [HG.out, HB.out])
        refine bodyPost_ret (v := .tuple #[.slice none 0 0, .bool false]) (by simp [results, Tryz.results14, go_sem]) rfl ?_
        exact ⟨_, by rw [E.out], by rw [tplD_no E.out]; exact OI.nil _ _ _, (below_drewN hbr q).mono hB⟩
    · obtain rfl : k = (splT 32 s).length := by omega
      rw [List.take_of_length_le (by rw [HLn.out]; exact Nat.le_refl _)] at ho
      have HE := Lib.hid (ents_ok (ws := spl 32 s.data.toList) (by rw [← HLn.out]; exact HA.out))
      obtain ⟨Av, cv, rfl⟩ := ho.form
      by_cases h2 : (spl 32 s.data.toList).length ≤ 256
      · have E := Lib.hid (tplOk_yes (s := s.data.toList) (by rw [← HZ.out]; omega) h2 (gx_all (by rw [← HLn.out]; exact HA.out)))
        have E2 := Lib.hid (tplD_yes E.out HN.out)
        have E3 := Lib.hid (show entOk (ents (spl 32 s.data.toList)) = true by rw [HE.out]; exact decide_eq_true h2)
        clear h2
        go_wp2_with (go_at_call 37; refine (areEntries _ _ _ _ _ ho.reads).mono ?_; rintro e w2 ⟨rfl, q, rfl⟩; rw [E3.out])
        refine bodyPost_ret (v := .tuple #[.slice Av (ents (spl 32 s.data.toList)).length cv, .bool true]) (by simp [results, Tryz.results14, go_sem]) rfl ?_
        exact ⟨_, by rw [E.out], by rw [E2.out]; exact OI.more (w := wr.drewN q) ho hB, (below_drewN hbr q).mono hB⟩
      · have E := Lib.hid (tplOk_many HN.out (show 256 < (spl 32 s.data.toList).length by omega))
        have E3 := Lib.hid (show entOk (ents (spl 32 s.data.toList)) = false by rw [HE.out]; exact decide_eq_false h2)
        clear h2
        go_wp2_with (go_at_call 37; refine (areEntries _ _ _ _ _ ho.reads).mono ?_; rintro e w2 ⟨rfl, q, rfl⟩; rw [E3.out])
        refine bodyPost_ret (v := .tuple #[.slice none 0 0, .bool false]) (by simp [results, Tryz.results14, go_sem]) rfl ?_
        exact ⟨_, by rw [E.out], by rw [tplD_no E.out]; exact OI.nil _ _ _, (below_drewN hbr q).mono hB⟩
end Go.Proofs.YtkhkdnmpbfmmeaaGreatDoor
namespace Go.Proofs.YtkhkdnmpbfmmeaaGreatDoor
open Go.RowKit

/-- the successors of a line's words -/
def tvN (W : List (List UInt8)) (n : Int) : List Int := (W.drop 2).map fun x => rdNum x (n - 1)
theorem tvN_len (W : List (List UInt8)) (n : Int) : (tvN W n).length = W.length - 2 := by unfold tvN; simp
theorem tvN_gi {W : List (List UInt8)} {n : Int} {i : Nat} (h : i + 2 < W.length) : gi (tvN W n) i = rdNum (gx W (i + 2)) (n - 1) := by
  rw [gi_get (by rw [tvN_len]; omega)]
  unfold tvN
  rw [List.getElem_map, List.getElem_drop, gx_get h]
  congr 2
  omega
/-- is it the line of a vertex of a game of n? -/
noncomputable def tvOk (l : List UInt8) (n : Int) : Bool := decide (1 ≤ n ∧ n ≤ 256 ∧ 3 ≤ (spl 32 l).length ∧ (spl 32 l).length ≤ 18 ∧ 0 ≤ rdNum (gx (spl 32 l) 0) 40 ∧ 0 ≤ plr (gx (spl 32 l) 1)) && setB (tvN (spl 32 l) n) n
noncomputable def tvP (l : List UInt8) (n : Int) : Int := if tvOk l n = true then rdNum (gx (spl 32 l) 0) 40 else 0
noncomputable def tvO (l : List UInt8) (n : Int) : Int := if tvOk l n = true then plr (gx (spl 32 l) 1) else 0
noncomputable def tvX (l : List UInt8) (n : Int) : List Int := if tvOk l n = true then tvN (spl 32 l) n else []
theorem tv_no {l : List UInt8} {n : Int} (h : tvOk l n = false) : tvP l n = 0 ∧ tvO l n = 0 ∧ tvX l n = [] := by
  unfold tvP tvO tvX
  rw [h]
  exact ⟨rfl, rfl, rfl⟩
theorem tv_yes {l : List UInt8} {n : Int} (h : tvOk l n = true) : tvP l n = rdNum (gx (spl 32 l) 0) 40 ∧ tvO l n = plr (gx (spl 32 l) 1) ∧ tvX l n = tvN (spl 32 l) n := by
  unfold tvP tvO tvX
  rw [h]
  exact ⟨rfl, rfl, rfl⟩
theorem tvOk_no {l : List UInt8} {n : Int} (h : ¬ (1 ≤ n ∧ n ≤ 256 ∧ 3 ≤ (spl 32 l).length ∧ (spl 32 l).length ≤ 18 ∧ 0 ≤ rdNum (gx (spl 32 l) 0) 40 ∧ 0 ≤ plr (gx (spl 32 l) 1))) : tvOk l n = false := by
  unfold tvOk
  rw [decide_eq_false h]
  rfl
theorem tvOk_set {l : List UInt8} {n : Int} (h : setB (tvN (spl 32 l) n) n = false) : tvOk l n = false := by
  unfold tvOk
  rw [h, Bool.and_false]
theorem tvOk_of {l : List UInt8} {n : Int} (h : 1 ≤ n ∧ n ≤ 256 ∧ 3 ≤ (spl 32 l).length ∧ (spl 32 l).length ≤ 18 ∧ 0 ≤ rdNum (gx (spl 32 l) 0) 40 ∧ 0 ≤ plr (gx (spl 32 l) 1)) (h2 : setB (tvN (spl 32 l) n) n = true) : tvOk l n = true := by
  unfold tvOk
  rw [decide_eq_true h, h2]
  rfl
/-- the first failure -/
theorem tv_bad {l : List UInt8} {n : Int} {i : Nat} (hi : i + 2 < (spl 32 l).length) (h : ¬ setAt (tvN (spl 32 l) n) n i) : tvOk l n = false :=
  tvOk_set (setB_no rfl (by rw [tvN_len]; omega) h)
theorem gl_snoc {α : Type} {l : List α} {k : Nat} (h : k < l.length) : l.take (k + 1) = l.take k ++ [l[k]] := List.take_succ_eq_append_getElem h
theorem tvN_snoc {W : List (List UInt8)} {n : Int} {i : Nat} (h : i + 2 < W.length) : (tvN W n).take (i + 1) = (tvN W n).take i ++ [rdNum (gx W (i + 2)) (n - 1)] := by
  have h' : i < (tvN W n).length := by rw [tvN_len]; omega
  rw [gl_snoc h', ← gi_get h', tvN_gi h]
theorem rd_ok {x : List UInt8} {n : Int} : (rdOk x && decide (rdVal x < n)) = decide (0 ≤ rdNum x (n - 1)) := by
  cases h : rdOk x with
  | true =>
    rw [rdVal_ok h, Bool.true_and]
    unfold rdNum
    by_cases e : (dgVal x : Int) < n
    · rw [decide_eq_true e, if_pos ⟨h, by omega⟩, decide_eq_true (by omega)]
    · rw [decide_eq_false e, if_neg (fun k => e (by omega)), decide_eq_false (by omega)]
  | false =>
    rw [Bool.false_and]
    unfold rdNum
    rw [if_neg (fun k => by rw [h] at k; cases k.1), decide_eq_false (by omega)]
theorem rd_val {x : List UInt8} {n : Int} (h : 0 ≤ rdNum x n) : rdVal x = rdNum x n := by
  obtain ⟨_, h2, h3⟩ := rdNum_le h
  rw [rdVal_ok h3, h2]
theorem readNumberR (s : ByteArray) (n : Int) (w : World) :
    Calls Tryz.prog 25 #[.string s, .int .i64 n] w fun e w' => e = .returned (.tuple #[.int .i64 (rdVal s.data.toList), .bool (decide (0 ≤ rdNum s.data.toList (n - 1)))]) ∧ Qt w w' := by
  have h := readNumber s n w
  rw [rd_ok] at h
  exact h

set_option maxRecDepth 100000 in
set_option maxHeartbeats 3200000 in
theorem implTextVertex (s : ByteArray) (n : Int) (w : World) (B : Nat) (hB : B ≤ w.heap.size) (hP : PN w) (hM : Max w) (hs : s.size ≤ 4000000) :
    Calls Tryz.prog 26 #[.string s, .int .i64 n] w fun e w' => ∃ v, e = .returned (.tuple #[.int .i64 (tvP s.data.toList n), .int .i64 (tvO s.data.toList n), v, .bool (tvOk s.data.toList n)]) ∧ OI 2 w' B v (tvX s.data.toList n) ∧ Below B w w' := by
  have HZ := Lib.hid (Lib.size_eq s)
  have FAIL : ∀ (w' : World), tvOk s.data.toList n = false → Below B w w' → ∃ v', Ending.returned (.tuple #[.int .i64 0, .int .i64 0, .slice none 0 0, .bool false]) = .returned (.tuple #[.int .i64 (tvP s.data.toList n), .int .i64 (tvO s.data.toList n), v', .bool (tvOk s.data.toList n)]) ∧ OI 2 w' B v' (tvX s.data.toList n) ∧ Below B w w' := fun w' h hb => by
    obtain ⟨e1, e2, e3⟩ := tv_no h
    exact ⟨_, by rw [e1, e2, h], by rw [e3]; exact OI.nil _ _ _, hb⟩
  have HF := Lib.hid FAIL
  clear FAIL
  by_cases h1 : 1 ≤ n ∧ n ≤ 256
  · have HN := Lib.hid h1
    have hn1 := h1.1
    have hn2 := h1.2
    clear h1
    go_enter Tryz.func26, Tryz.ntmps26
    go_wp2_with fail
    refine (stringsSplit s 32 _ hM hs).mono ?_; rintro e w1 ⟨v, rfl, ho1, hb1⟩
    obtain ⟨A1, c1, rfl⟩ := ho1.form
    have hcap := ho1.reads.cap
    have htop := ho1.reads.top
    have HLn := Lib.hid (splT_len 32 s)
    have hs1 := hb1.size
    have hR := ho1.reads
    by_cases h3 : (splT 32 s).length < 3
    · have E := Lib.hid (tvOk_no (l := s.data.toList) (n := n) (fun h => by have := h.2.2.1; rw [← HLn.out] at this; omega))
      go_wp2
      refine bodyPost_ret (v := .tuple #[.int .i64 0, .int .i64 0, .slice none 0 0, .bool false]) (by simp [results, Tryz.results26, go_sem]) rfl ?_
      exact HF.out _ E.out (hb1.mono hB)
    by_cases h4 : 18 < (splT 32 s).length
    · have E := Lib.hid (tvOk_no (l := s.data.toList) (n := n) (fun h => by have := h.2.2.2.1; rw [← HLn.out] at this; omega))
      go_wp2
      refine bodyPost_ret (v := .tuple #[.int .i64 0, .int .i64 0, .slice none 0 0, .bool false]) (by simp [results, Tryz.results26, go_sem]) rfl ?_
      exact HF.out _ E.out (hb1.mono hB)
    obtain ⟨b, off, hA, hc0⟩ := hR.at_ (show 0 < (splT 32 s).length by omega)
    subst hA
    obtain ⟨b', off', hA', hc1⟩ := hR.at_ (show 1 < (splT 32 s).length by omega)
    injection hA' with hA'
    injection hA' with hb' ho'
    subst hb'; subst ho'
    rw [Nat.add_zero] at hc0
    have HG0 := Lib.hid (gtd 32 s 0)
    have HG1 := Lib.hid (gtd 32 s 1)
    have h4' : (splT 32 s).length ≤ 18 := by omega
    have h3' : 3 ≤ (splT 32 s).length := by omega
    have hP1 := hP.keep (keeps_below hb1)
    by_cases hp : 0 ≤ rdNum (gx (spl 32 s.data.toList) 0) 40
    · by_cases hq : 0 ≤ plr (gx (spl 32 s.data.toList) 1)
      · have HP0 := Lib.hid (show decide (0 ≤ rdNum (gx (spl 32 s.data.toList) 0) (41 - 1)) = true from decide_eq_true hp)
        have HQ0 := Lib.hid hq
        have HPV := Lib.hid (rd_val hp)
        have HPP := Lib.hid hp
        clear hp
        have hc2' : 2 < c1 := by omega
        go_wp2_with (first
          | (go_at_call 25; refine (readNumberR _ _ _).mono ?_; rintro e w2 ⟨rfl, q2, rfl⟩; rw [HG0.out, HP0.out, HPV.out])
          | (go_at_call 33; refine (playerOf _ _ (by exact hP1)).mono ?_; rintro e w3 ⟨rfl, q3, rfl⟩; rw [HG1.out]))
        have hw3 : Below w.heap.size w (w1.drewN (q2 + q3)) := below_drewN hb1 _
        go_loopw [12, 54] (fun v i wr => ∃ m : Nat, m + 2 ≤ (splT 32 s).length ∧ i = .int .i64 (m : Int) ∧ (∀ j, j < m → 0 ≤ gi (tvN (spl 32 s.data.toList) n) j) ∧ OI 2 wr w1.heap.size v ((tvN (spl 32 s.data.toList) n).take m) ∧ Below w.heap.size w wr ∧ w1.heap.size ≤ wr.heap.size ∧ OS wr w.heap.size (.slice (some ⟨b, off, none⟩) (splT 32 s).length c1) (splT 32 s)) (fun _ i _ => (splT 32 s).length - (intOf i).toNat)
        case atStart =>
          have hx : Below w1.heap.size w1 ((w1.drewN (q2 + q3)).alloc (.cells #[] 2)) := below_alloc (Nat.le_refl _) (below_drewN (Below.refl _ _) _)
          exact ⟨0, by omega, rfl, by omega, OI.empty (w := w1.drewN (q2 + q3)) (Nat.le_refl _), below_alloc (Nat.le_refl _) hw3, by simp, ho1.below hx⟩
        case round =>
          obtain ⟨m, hm, rfl, hall, ho, hbr, hz1, hrr⟩ := hrel
          have hsz := hbr.size
          have HA := Lib.hid hall
          clear hall
          have hml : ((tvN (spl 32 s.data.toList) n).take m).length = m := by rw [List.length_take, tvN_len, ← HLn.out]; omega
          by_cases hlt : m + 2 < (splT 32 s).length
          · obtain ⟨b2, off2, hA2, hcm⟩ := (OS.reads hrr).at_ hlt
            injection hA2 with hA2
            injection hA2 with hb2 ho2
            subst hb2; subst ho2
            have HG := Lib.hid (gtd 32 s (m + 2))
            have hlW : m + 2 < (spl 32 s.data.toList).length := by rw [← HLn.out]; exact hlt
            have HU := Lib.hid (tvN_gi (n := n) hlW)
            have HS := Lib.hid (tvN_snoc (n := n) hlW)
            have HBad := Lib.hid (fun h => tv_bad (n := n) hlW h)
            have hcm2 : wr.cell? ⟨b, off + 2 + m, none⟩ = some (.string (gt (splT 32 s) (m + 2))) := by rw [← hcm, show off + 2 + m = off + (m + 2) by omega]
            have hlt2 : m < (splT 32 s).length - 2 := by omega
            have hll : ((tvN (spl 32 s.data.toList) n).take m).length ≤ 4194304 := by rw [hml]; omega
            clear hlW hcm
            obtain ⟨Av, cv, rfl⟩ := ho.form
            rw [hml] at ho
            rw [hml]
            by_cases hu : 0 ≤ rdNum (gx (spl 32 s.data.toList) (m + 2)) (n - 1)
            · have HD := Lib.hid (show decide (0 ≤ rdNum (gx (spl 32 s.data.toList) (m + 2)) (n - 1)) = true from decide_eq_true hu)
              have HV := Lib.hid (rd_val hu)
              have HU0 := Lib.hid hu
              clear hu hml
              go_wp2_with (first
                | (go_at_call 25; refine (readNumberR _ _ _).mono ?_; rintro e w4 ⟨rfl, q4, rfl⟩; rw [HG.out, HD.out, HV.out])
                | (at_builtin; refine wpList_pushI rfl (.tmp 66) (.tmp 68) rfl (wr.drewN q4) w1.heap.size (.slice Av m cv) ((tvN (spl 32 s.data.toList) n).take m) rfl ho _ rfl hll hz1 ?_; intro v' w5 ho5 hb5 hc5 hv5))
              have hb5' : Below w.heap.size w w5 := (below_drewN hbr q4).trans (hb5.mono hs1)
              go_roundw
              case rel =>
                refine ⟨m + 1, by omega, by go_num, all_succ HA.out (by rw [HU.out]; exact HU0.out), by rw [HS.out]; exact ho5, hb5', Nat.le_trans hz1 hb5.size, ?_⟩
                exact row_chg (w := wr.drewN q4) hrr hc5 (fun x hx e => own_ne hrr ho (by decide) x hx e)
              case measure => simp [intOf]; omega
            · have E := Lib.hid (HBad.out (fun h => hu (by have := h.1; rw [HU.out] at this; exact this)))
              have HD := Lib.hid (show decide (0 ≤ rdNum (gx (spl 32 s.data.toList) (m + 2)) (n - 1)) = false from decide_eq_false hu)
              clear hu hml
              go_wp2_with (go_at_call 25; refine (readNumberR _ _ _).mono ?_; rintro e w4 ⟨rfl, q4, rfl⟩; rw [HG.out, HD.out])
              refine bodyPost_ret (v := .tuple #[.int .i64 0, .int .i64 0, .slice none 0 0, .bool false]) (by simp [results, Tryz.results26, go_sem]) rfl ?_
              exact HF.out _ E.out ((below_drewN hbr q4).mono hB)
          · have hlt2 : ¬ m < (splT 32 s).length - 2 := by omega
            have HT : Hid ((tvN (spl 32 s.data.toList) n).take m = tvN (spl 32 s.data.toList) n) := Lib.hid (List.take_of_length_le (by rw [tvN_len, ← HLn.out]; omega))
            rw [HT.out] at ho
            obtain ⟨Av, cv, rfl⟩ := ho.form
            cases hset : setB (tvN (spl 32 s.data.toList) n) n with
            | true =>
              have E := Lib.hid (tvOk_of (l := s.data.toList) (n := n) ⟨HN.out.1, HN.out.2, by rw [← HLn.out]; exact h3', by rw [← HLn.out]; exact h4', HPP.out, HQ0.out⟩ hset)
              have EY := Lib.hid (tv_yes E.out)
              have HSE := Lib.hid hset
              clear hset
              go_wp2_with (go_at_call 45; refine (isSet _ _ _ _ _ _ ho.reads).mono ?_; rintro e w4 ⟨rfl, q4, rfl⟩; rw [HSE.out])
              refine bodyPost_ret (v := .tuple #[.int .i64 (rdNum (gx (spl 32 s.data.toList) 0) 40), .int .i64 (plr (gx (spl 32 s.data.toList) 1)), .slice Av (tvN (spl 32 s.data.toList) n).length cv, .bool true]) (by simp [results, Tryz.results26, go_sem]) rfl ?_
              exact ⟨_, by rw [EY.out.1, EY.out.2.1, E.out], by rw [EY.out.2.2]; exact OI.more (w := wr.drewN q4) ho (Nat.le_trans hB hs1), (below_drewN hbr q4).mono hB⟩
            | false =>
              have E := Lib.hid (tvOk_set hset)
              have HSE := Lib.hid hset
              clear hset
              go_wp2_with (go_at_call 45; refine (isSet _ _ _ _ _ _ ho.reads).mono ?_; rintro e w4 ⟨rfl, q4, rfl⟩; rw [HSE.out])
              refine bodyPost_ret (v := .tuple #[.int .i64 0, .int .i64 0, .slice none 0 0, .bool false]) (by simp [results, Tryz.results26, go_sem]) rfl ?_
              exact HF.out _ E.out ((below_drewN hbr q4).mono hB)
      · have E := Lib.hid (tvOk_no (l := s.data.toList) (n := n) (fun h => hq h.2.2.2.2.2))
        have HP0 := Lib.hid (show decide (0 ≤ rdNum (gx (spl 32 s.data.toList) 0) (41 - 1)) = true from decide_eq_true hp)
        have hq' : plr (gx (spl 32 s.data.toList) 1) < 0 := by omega
        clear hq hp
        go_wp2_with (first
          | (go_at_call 25; refine (readNumberR _ _ _).mono ?_; rintro e w2 ⟨rfl, q2, rfl⟩; rw [HG0.out, HP0.out])
          | (go_at_call 33; refine (playerOf _ _ (by exact hP1)).mono ?_; rintro e w3 ⟨rfl, q3, rfl⟩; rw [HG1.out]))
        refine bodyPost_ret (v := .tuple #[.int .i64 0, .int .i64 0, .slice none 0 0, .bool false]) (by simp [results, Tryz.results26, go_sem]) rfl ?_
        exact HF.out _ E.out (below_drewN (hb1.mono hB) _)
    · have E := Lib.hid (tvOk_no (l := s.data.toList) (n := n) (fun h => hp h.2.2.2.2.1))
      have HP0 := Lib.hid (show decide (0 ≤ rdNum (gx (spl 32 s.data.toList) 0) (41 - 1)) = false from decide_eq_false hp)
      clear hp
      go_wp2_with (first
        | (go_at_call 25; refine (readNumberR _ _ _).mono ?_; rintro e w2 ⟨rfl, q2, rfl⟩; rw [HG0.out, HP0.out])
        | (go_at_call 33; refine (playerOf _ _ (by exact hP1)).mono ?_; rintro e w3 ⟨rfl, q3, rfl⟩; rw [HG1.out]))
      refine bodyPost_ret (v := .tuple #[.int .i64 0, .int .i64 0, .slice none 0 0, .bool false]) (by simp [results, Tryz.results26, go_sem]) rfl ?_
      exact HF.out _ E.out (below_drewN (hb1.mono hB) _)
  · have E := Lib.hid (tvOk_no (l := s.data.toList) (n := n) (fun h => h1 ⟨h.1, h.2.1⟩))
    have hc : (n < 1 ∧ (0 : Int) ≤ (s.size : Int)) ∨ (1 ≤ n ∧ 256 < n) := by omega
    clear h1
    rcases hc with ⟨hc1, hc2⟩ | ⟨hc1, hc2⟩
    all_goals
      go_enter Tryz.func26, Tryz.ntmps26
      go_wp2
      refine bodyPost_ret (v := .tuple #[.int .i64 0, .int .i64 0, .slice none 0 0, .bool false]) (by simp [results, Tryz.results26, go_sem]) rfl ?_
      exact HF.out _ E.out (Below.refl _ _)
end Go.Proofs.YtkhkdnmpbfmmeaaGreatDoor
namespace Go.Proofs.YtkhkdnmpbfmmeaaGreatDoor
open Go.RowKit

end Go.Proofs.YtkhkdnmpbfmmeaaGreatDoor
namespace Go.Proofs.YtkhkdnmpbfmmeaaGreatDoor
open Go.RowKit

theorem set_all {xs : List Int} {n : Nat} (h : setB xs (n : Int) = true) : ∀ u ∈ xs, 0 ≤ u ∧ u < (n : Int) := by
  intro u hu
  obtain ⟨i, hi, rfl⟩ := mem_gi hu
  obtain ⟨m, e, hm⟩ := set_nat h hi
  omega
/-- the line of a vertex -/
def vtx (g : ParD) (v : Nat) : List UInt8 := jn [tx (Lib.decDigits (gi g.2.2 v).toNat), tx (wo (gi g.1 v)), tx (jn (nums (gl g.2.1 v)) [32])] [32]
theorem wo_len (o : Int) : (wo o).length ≤ 4 := by
  unfold wo
  split <;> simp [evB, odB]
end Go.Proofs.YtkhkdnmpbfmmeaaGreatDoor
namespace Go.Proofs.YtkhkdnmpbfmmeaaGreatDoor
open Go.RowKit

/-- the successors of a line, each behind a blank -/
def tlx (us : List Int) : List UInt8 := Lib.joinTail [32] (us.map fun u => Lib.decDigits u.toNat)
theorem tlx_snoc {us : List Int} {k : Nat} (h : k < us.length) : tlx (us.take (k + 1)) = tlx (us.take k) ++ ([32] ++ Lib.decDigits (gi us k).toNat) := by
  unfold tlx
  rw [take_gi h, List.map_append]
  simp [Lib.joinTail]
theorem tlx_len {us : List Int} (hu : ∀ u ∈ us, 0 ≤ u ∧ u < 256) : ∀ k, k ≤ us.length → (tlx (us.take k)).length ≤ 10 * k
  | 0, _ => by simp [tlx, Lib.joinTail]
  | k + 1, hk => by
    have ih := tlx_len hu k (by omega)
    have h1 := hu _ (gi_mem (show k < us.length by omega))
    have := dec_len9 (show (gi us k).toNat < 1000000000 by omega)
    rw [tlx_snoc (by omega), List.length_append, List.length_append, List.length_singleton]
    omega
theorem vtx_eq {g : ParD} {v : Nat} (h : 1 ≤ (gl g.2.1 v).length) : vtx g v = Lib.decDigits (gi g.2.2 v).toNat ++ [32] ++ wo (gi g.1 v) ++ tlx (gl g.2.1 v) := by
  unfold vtx tlx
  generalize gl g.2.1 v = us at h
  cases us with
  | nil => simp at h
  | cons x r =>
    have e : jn (nums (x :: r)) [32] = Lib.decDigits x.toNat ++ Lib.joinTail [32] (r.map fun u => Lib.decDigits u.toNat) := by
      unfold jn nums
      simp only [List.map_cons, List.map_map, tx_data]
      rw [Lib.join_cons]
      congr 2
    rw [e]
    unfold jn
    simp only [List.map_cons, List.map_nil, tx_data]
    rw [Lib.join_cons]
    simp [Lib.joinTail]

set_option maxRecDepth 100000 in
set_option maxHeartbeats 1600000 in
theorem vertexText (s0 s1 s2 : Value) (g : ParD) (v : Nat) (w : World) (B : Nat) (hB : B ≤ w.heap.size) (hT : Tab w) (hP : PN w) (ha : RPv w s0 s1 s2 g) (hg : finePar g) (hv : v < g.1.length) :
    Calls Tryz.prog 22 #[.agg #[s0, s1, s2], .int .i64 (v : Int)] w fun e w' => e = .returned (.string (tx (vtx g v))) ∧ Below B w w' := by
  obtain ⟨A0, n0, c0, A1, n1, c1, A2, n2, c2, rfl, rfl, rfl⟩ := ha.form
  have hr := ha.ri; have hrr := ha.rii; have hrp := ha.rp
  have b1 := hr.cap; have b2 := hr.top; have b3 := hrr.cap; have b4 := hrr.top; have b5 := hrp.cap; have b6 := hrp.top
  obtain ⟨⟨f1, f2, f3, f4⟩, f5, f6⟩ := hg
  have l0 := hr.len; have l1 := hrr.len; have l2 := hrp.len
  have hv0 : v < n0 := by omega
  have hv1 : v < n1 := by omega
  have hv2 : v < n2 := by omega
  obtain ⟨⟨o0, o1⟩, ⟨x0, x1⟩, xs⟩ := f4 v hv
  have HU := Lib.hid (fun u (hu : u ∈ gl g.2.1 v) => show 0 ≤ u ∧ u < 256 by have := set_all xs u hu; omega)
  obtain ⟨p0, p1⟩ := f6 v (by omega)
  obtain ⟨p, hp⟩ := Int.eq_ofNat_of_zero_le p0
  have HP := Lib.hid hp
  have HP4 := Lib.hid (show p < 1000000000 by omega)
  have HVX := Lib.hid (vtx_eq (g := g) (v := v) x0)
  obtain ⟨bo, fo, rfl, co⟩ := hr.at_ hv0
  obtain ⟨bp, fp, rfl, cp⟩ := hrp.at_ hv2
  obtain ⟨bn, fn, A', n', c', rfl, cn, rn⟩ := hrr.at_ hv1
  have hnl := Lib.hid rn.len
  have hn16 : n' ≤ 16 := by have := rn.len; omega
  have bn1 := rn.cap; have bn2 := rn.top
  rw [hp] at cp
  have lo := World.block_lt_of_cell? w _ co
  have lp := World.block_lt_of_cell? w _ cp
  have ln := World.block_lt_of_cell? w _ cn
  have lg := World.block_lt_of_cell? w _ hP.1
  simp only at lo lp ln lg
  have HO : Hid (gi g.1 v = 0 ∨ gi g.1 v = 1) := Lib.hid (by omega)
  have hd : (tx (Lib.decDigits p)).size ≤ 9 := by rw [tx_size]; exact dec_len9 HP4.out
  have z1 : (tx (Lib.decDigits p)).size + 1 ≤ 9223372036854775807 := by omega
  have z2 : (tx (Lib.decDigits p)).size + 1 + 4 ≤ 9223372036854775807 := by omega
  have z3 : (tx (Lib.decDigits p)).size + 1 + 3 ≤ 9223372036854775807 := by omega
  have y1 : ¬ 9223372036854775807 < (tx (Lib.decDigits p)).size + 1 := by omega
  have y2 : ¬ 9223372036854775807 < (tx (Lib.decDigits p)).size + 1 + 4 := by omega
  have y3 : ¬ 9223372036854775807 < (tx (Lib.decDigits p)).size + 1 + 3 := by omega
  clear f1 f2 f3 f4 f5 f6 x0 x1 xs p0 p1 hp l0 l1 l2 o0 o1 hv hd
  have bx := Box.new w 32 #[.slice (some ⟨bo, fo, none⟩) n0 c0, .slice (some ⟨bn, fn, none⟩) n1 c1, .slice (some ⟨bp, fp, none⟩) n2 c2]
  have hwL : Below w.heap.size w (w.alloc (.cells #[.slice (some ⟨bo, fo, none⟩) n0 c0, .slice (some ⟨bn, fn, none⟩) n1 c1, .slice (some ⟨bp, fp, none⟩) n2 c2] 32)) := below_alloc (Nat.le_refl _) (Below.refl _ _)
  go_enter Tryz.func22, Tryz.ntmps22
  go_wp2_with fail
  generalize (w.alloc (.cells #[.slice (some ⟨bo, fo, none⟩) n0 c0, .slice (some ⟨bn, fn, none⟩) n1 c1, .slice (some ⟨bp, fp, none⟩) n2 c2] 32)) = wL at bx hwL ⊢
  have HS : ∀ w', Below wL.heap.size wL w' → (w'.cell? ⟨w.heap.size, 0, none⟩ = some (.slice (some ⟨bo, fo, none⟩) n0 c0) ∧ w'.cell? ⟨w.heap.size, 1, none⟩ = some (.slice (some ⟨bn, fn, none⟩) n1 c1) ∧ w'.cell? ⟨w.heap.size, 2, none⟩ = some (.slice (some ⟨bp, fp, none⟩) n2 c2) ∧ w'.cell? ⟨bo, fo + v, none⟩ = some (.int .i64 (gi g.1 v)) ∧ w'.cell? ⟨bp, fp + v, none⟩ = some (.int .i64 p) ∧ w'.cell? ⟨bn, fn + v, none⟩ = some (.slice A' n' c') ∧ w'.cell? ⟨0, 0, none⟩ = some (.string { data := #[101, 118, 101, 110] }) ∧ w'.cell? ⟨0, 1, none⟩ = some (.string { data := #[111, 100, 100] })) := fun w' h => by
    have k := keeps_below hwL
    have bx' := bx.below h bx.lt
    exact ⟨bx'.cell 0, bx'.cell 1, bx'.cell 2, keeps_below h _ _ (k _ _ co), keeps_below h _ _ (k _ _ cp), keeps_below h _ _ (k _ _ cn), keeps_below h _ _ (k _ _ hP.1), keeps_below h _ _ (k _ _ hP.2)⟩
  obtain ⟨u0, u1, u2, u3, u4, u5, u6, u7⟩ := HS wL (Below.refl _ _)
  have H3 := Lib.hid HS
  clear HS co cp cn
  have hTL := hT.below hwL
  generalize ho : gi g.1 v = o at *
  have HO' := HO.out
  clear HO
  have HW : ∀ wF, Below w.heap.size w wF → ∀ a : Act, True := fun _ _ _ => trivial
  clear HW
  rcases HO' with rfl | rfl
  · have HS3 := H3
    go_region_held3 (fun w' => w'.cell? ⟨w.heap.size, 0, none⟩ = some (.slice (some ⟨bo, fo, none⟩) n0 c0) ∧ w'.cell? ⟨w.heap.size, 1, none⟩ = some (.slice (some ⟨bn, fn, none⟩) n1 c1) ∧ w'.cell? ⟨w.heap.size, 2, none⟩ = some (.slice (some ⟨bp, fp, none⟩) n2 c2) ∧ w'.cell? ⟨bo, fo + v, none⟩ = some (.int .i64 0) ∧ w'.cell? ⟨bp, fp + v, none⟩ = some (.int .i64 p) ∧ w'.cell? ⟨bn, fn + v, none⟩ = some (.slice A' n' c') ∧ w'.cell? ⟨0, 0, none⟩ = some (.string { data := #[101, 118, 101, 110] }) ∧ w'.cell? ⟨0, 1, none⟩ = some (.string { data := #[111, 100, 100] }))
      (refine ⟨?_, ?_, ?_, ?_, ?_, ?_, ?_, ?_⟩ <;> repeat (first | with_reducible assumption | with_reducible refine keepD ?_ | with_reducible refine keepA ?_))
      ((go_at_call 20; refine (decimal _ _ HP4.out _ (Nat.le_refl _) (by exact hTL.below (Below.drew (Below.refl _ _)))).mono ?_; rintro e w1 ⟨rfl, hb1⟩; have hx1 : Below wL.heap.size wL w1 := below_undrew hb1; obtain ⟨a0, a1, a2, a3, a4, a5, a6, a7⟩ := H3.out w1 hx1))
    have e0 : tx (Lib.decDigits p) ++ { data := #[32] } ++ { data := #[101, 118, 101, 110] } = tx (Lib.decDigits p ++ [32] ++ wo 0) := by
      show tx (Lib.decDigits p) ++ tx [32] ++ tx (wo 0) = _
      rw [tx_app, tx_app]
    rw [e0]
    generalize hhd : Lib.decDigits p ++ [32] ++ wo 0 = hd
    have HD := Lib.hid hhd
    have hl9 : hd.length ≤ 14 := by
      rw [← hhd, List.length_append, List.length_append, List.length_singleton]
      have h1 := dec_len9 HP4.out
      have h2 := wo_len 0
      omega
    clear hhd e0
    have hw1 := below_then hx1 hwL.size hwL
    have HT := Lib.hid (tlx_len HU.out)
    go_wp2
    go_loopw [5, 31] (fun s i wr => ∃ k : Nat, k ≤ n' ∧ i = .int .i64 k ∧ s = .string (tx (hd ++ tlx ((gl g.2.1 v).take k))) ∧ Below w.heap.size w wr) (fun _ i _ => n' - (intOf i).toNat)
    case atStart => exact ⟨0, Nat.zero_le _, rfl, by rw [List.take_zero]; show _ = Value.string (tx (hd ++ [])); rw [List.append_nil], hw1⟩
    case round =>
      obtain ⟨k, hk, rfl, rfl, hbr⟩ := hrel
      have hsz := hbr.size
      have hT' := hT.below hbr
      by_cases hlt : k < n'
      · obtain ⟨bb, off, rfl, hc1⟩ := (rn.keep (keeps_below hbr)).at_ hlt
        have hkl : k < (gl g.2.1 v).length := by rw [hnl.out]; exact hlt
        have HN := Lib.hid (tlx_snoc hkl)
        have H1 := HU.out _ (gi_mem hkl)
        obtain ⟨u, hu0⟩ := Int.eq_ofNat_of_zero_le H1.1
        have HUu := Lib.hid hu0
        have HU9 := Lib.hid (show u < 1000000000 by omega)
        rw [hu0] at hc1
        have hd9 : (tx (Lib.decDigits u)).size ≤ 9 := by rw [tx_size]; exact dec_len9 HU9.out
        have hl : (tx (hd ++ tlx ((gl g.2.1 v).take k))).size ≤ 200 := by
          rw [tx_size, List.length_append]
          have := HT.out k (by rw [hnl.out]; exact hk)
          omega
        have y1 : 1 + (tx (Lib.decDigits u)).size ≤ 9223372036854775807 := by omega
        have y2 : (tx (hd ++ tlx ((gl g.2.1 v).take k))).size + (1 + (tx (Lib.decDigits u)).size) ≤ 9223372036854775807 := by omega
        clear hd9 hl hu0 H1 hkl
        go_wp2_with (go_at_call 20; refine (decimal _ _ HU9.out _ (Nat.le_refl _) hT').mono ?_; rintro e w2 ⟨rfl, hb2⟩)
        have hbw : Below w.heap.size w w2 := below_then hb2 hsz hbr
        go_roundw
        case rel =>
          refine ⟨k + 1, by omega, by go_num, ?_, hbw⟩
          show Value.string (tx (hd ++ tlx ((gl g.2.1 v).take k)) ++ (tx [32] ++ tx (Lib.decDigits u))) = _
          rw [tx_app, tx_app, HN.out, HUu.out, List.append_assoc]
          rfl
        case measure => simp [intOf]; omega
      · obtain rfl : k = n' := by omega
        go_wp2
        go_ret
        refine ⟨?_, hbr.mono hB⟩
        rw [List.take_of_length_le (by rw [hnl.out]; exact Nat.le_refl _)]
        rw [HVX.out, HP.out, ← HD.out]
        rfl
  · have HS3 := H3
    go_region_held3 (fun w' => w'.cell? ⟨w.heap.size, 0, none⟩ = some (.slice (some ⟨bo, fo, none⟩) n0 c0) ∧ w'.cell? ⟨w.heap.size, 1, none⟩ = some (.slice (some ⟨bn, fn, none⟩) n1 c1) ∧ w'.cell? ⟨w.heap.size, 2, none⟩ = some (.slice (some ⟨bp, fp, none⟩) n2 c2) ∧ w'.cell? ⟨bo, fo + v, none⟩ = some (.int .i64 1) ∧ w'.cell? ⟨bp, fp + v, none⟩ = some (.int .i64 p) ∧ w'.cell? ⟨bn, fn + v, none⟩ = some (.slice A' n' c') ∧ w'.cell? ⟨0, 0, none⟩ = some (.string { data := #[101, 118, 101, 110] }) ∧ w'.cell? ⟨0, 1, none⟩ = some (.string { data := #[111, 100, 100] }))
      (refine ⟨?_, ?_, ?_, ?_, ?_, ?_, ?_, ?_⟩ <;> repeat (first | with_reducible assumption | with_reducible refine keepD ?_ | with_reducible refine keepA ?_))
      ((go_at_call 20; refine (decimal _ _ HP4.out _ (Nat.le_refl _) (by exact hTL.below (Below.drew (Below.refl _ _)))).mono ?_; rintro e w1 ⟨rfl, hb1⟩; have hx1 : Below wL.heap.size wL w1 := below_undrew hb1; obtain ⟨a0, a1, a2, a3, a4, a5, a6, a7⟩ := H3.out w1 hx1))
    have e0 : tx (Lib.decDigits p) ++ { data := #[32] } ++ { data := #[111, 100, 100] } = tx (Lib.decDigits p ++ [32] ++ wo 1) := by
      show tx (Lib.decDigits p) ++ tx [32] ++ tx (wo 1) = _
      rw [tx_app, tx_app]
    rw [e0]
    generalize hhd : Lib.decDigits p ++ [32] ++ wo 1 = hd
    have HD := Lib.hid hhd
    have hl9 : hd.length ≤ 14 := by
      rw [← hhd, List.length_append, List.length_append, List.length_singleton]
      have h1 := dec_len9 HP4.out
      have h2 := wo_len 1
      omega
    clear hhd e0
    have hw1 := below_then hx1 hwL.size hwL
    have HT := Lib.hid (tlx_len HU.out)
    go_wp2
    go_loopw [5, 31] (fun s i wr => ∃ k : Nat, k ≤ n' ∧ i = .int .i64 k ∧ s = .string (tx (hd ++ tlx ((gl g.2.1 v).take k))) ∧ Below w.heap.size w wr) (fun _ i _ => n' - (intOf i).toNat)
    case atStart => exact ⟨0, Nat.zero_le _, rfl, by rw [List.take_zero]; show _ = Value.string (tx (hd ++ [])); rw [List.append_nil], hw1⟩
    case round =>
      obtain ⟨k, hk, rfl, rfl, hbr⟩ := hrel
      have hsz := hbr.size
      have hT' := hT.below hbr
      by_cases hlt : k < n'
      · obtain ⟨bb, off, rfl, hc1⟩ := (rn.keep (keeps_below hbr)).at_ hlt
        have hkl : k < (gl g.2.1 v).length := by rw [hnl.out]; exact hlt
        have HN := Lib.hid (tlx_snoc hkl)
        have H1 := HU.out _ (gi_mem hkl)
        obtain ⟨u, hu0⟩ := Int.eq_ofNat_of_zero_le H1.1
        have HUu := Lib.hid hu0
        have HU9 := Lib.hid (show u < 1000000000 by omega)
        rw [hu0] at hc1
        have hd9 : (tx (Lib.decDigits u)).size ≤ 9 := by rw [tx_size]; exact dec_len9 HU9.out
        have hl : (tx (hd ++ tlx ((gl g.2.1 v).take k))).size ≤ 200 := by
          rw [tx_size, List.length_append]
          have := HT.out k (by rw [hnl.out]; exact hk)
          omega
        have y1 : 1 + (tx (Lib.decDigits u)).size ≤ 9223372036854775807 := by omega
        have y2 : (tx (hd ++ tlx ((gl g.2.1 v).take k))).size + (1 + (tx (Lib.decDigits u)).size) ≤ 9223372036854775807 := by omega
        clear hd9 hl hu0 H1 hkl
        go_wp2_with (go_at_call 20; refine (decimal _ _ HU9.out _ (Nat.le_refl _) hT').mono ?_; rintro e w2 ⟨rfl, hb2⟩)
        have hbw : Below w.heap.size w w2 := below_then hb2 hsz hbr
        go_roundw
        case rel =>
          refine ⟨k + 1, by omega, by go_num, ?_, hbw⟩
          show Value.string (tx (hd ++ tlx ((gl g.2.1 v).take k)) ++ (tx [32] ++ tx (Lib.decDigits u))) = _
          rw [tx_app, tx_app, HN.out, HUu.out, List.append_assoc]
          rfl
        case measure => simp [intOf]; omega
      · obtain rfl : k = n' := by omega
        go_wp2
        go_ret
        refine ⟨?_, hbr.mono hB⟩
        rw [List.take_of_length_le (by rw [hnl.out]; exact Nat.le_refl _)]
        rw [HVX.out, HP.out, ← HD.out]
        rfl
end Go.Proofs.YtkhkdnmpbfmmeaaGreatDoor
namespace Go.Proofs.YtkhkdnmpbfmmeaaGreatDoor
open Go.RowKit

/-- the words of a vertex's line -/
def vws (g : ParD) (v : Nat) : List (List UInt8) := Lib.decDigits (gi g.2.2 v).toNat :: wo (gi g.1 v) :: (gl g.2.1 v).map fun u => Lib.decDigits u.toNat
theorem wo_clean {o : Int} {c : UInt8} (h1 : c ∉ evB) (h2 : c ∉ odB) : c ∉ wo o := by
  unfold wo
  split
  · exact h1
  · exact h2
theorem vws_clean (g : ParD) (v : Nat) : ∀ x ∈ vws g v, (32 : UInt8) ∉ x := by
  intro x hx
  unfold vws at hx
  rcases List.mem_cons.1 hx with rfl | hx
  · exact dec_clean (by decide)
  · rcases List.mem_cons.1 hx with rfl | hx
    · exact wo_clean (by decide) (by decide)
    · obtain ⟨u, _, rfl⟩ := List.mem_map.1 hx
      exact dec_clean (by decide)
theorem vtx_join {g : ParD} {v : Nat} (h : 1 ≤ (gl g.2.1 v).length) : vtx g v = Lib.join (vws g v) [32] := by
  rw [vtx_eq h]
  unfold vws tlx
  rw [Lib.join_cons]
  simp [Lib.joinTail]
theorem vtx_spl {g : ParD} {v : Nat} (h : 1 ≤ (gl g.2.1 v).length) : spl 32 (vtx g v) = vws g v := by
  rw [vtx_join h]
  exact spl_join 32 _ (by unfold vws; simp) (vws_clean g v)
theorem plr_wo {o : Int} (h : o = 0 ∨ o = 1) : plr (wo o) = o := by
  rcases h with rfl | rfl <;> decide
theorem vtx_tvN {g : ParD} {v : Nat} {n : Int} (h : 1 ≤ (gl g.2.1 v).length) : tvN (spl 32 (vtx g v)) n = (gl g.2.1 v).map fun u => rdNum (Lib.decDigits u.toNat) (n - 1) := by
  rw [vtx_spl h]
  unfold tvN vws
  simp only [List.drop_succ_cons, List.drop_zero, List.map_map]
  rfl
theorem vtx_small {g : ParD} (hf : finePar g) {v : Nat} (hv : v < g.1.length) : (vtx g v).length ≤ 200 := by
  obtain ⟨⟨f1, f2, f3, f4⟩, f5, f6⟩ := hf
  obtain ⟨⟨o0, o1⟩, ⟨x0, x1⟩, xs⟩ := f4 v hv
  obtain ⟨p0, p1⟩ := f6 v (by omega)
  rw [vtx_eq x0, List.length_append, List.length_append, List.length_append, List.length_singleton]
  have h1 := dec_len9 (show (gi g.2.2 v).toNat < 1000000000 by omega)
  have h2 := wo_len (gi g.1 v)
  have h3 := tlx_len (us := gl g.2.1 v) (fun u hu => by have := set_all xs u hu; omega) _ (Nat.le_refl _)
  rw [List.take_length] at h3
  omega
/-- parsing the line of a vertex gives the vertex back -/
theorem vtx_back {g : ParD} (hf : finePar g) {v : Nat} (hv : v < g.1.length) : tvOk (vtx g v) (g.1.length : Int) = true ∧ tvP (vtx g v) (g.1.length : Int) = gi g.2.2 v ∧ tvO (vtx g v) (g.1.length : Int) = gi g.1 v ∧ tvX (vtx g v) (g.1.length : Int) = gl g.2.1 v := by
  obtain ⟨⟨f1, f2, f3, f4⟩, f5, f6⟩ := hf
  obtain ⟨⟨o0, o1⟩, ⟨x0, x1⟩, xs⟩ := f4 v hv
  obtain ⟨p0, p1⟩ := f6 v (by omega)
  have hs := vtx_spl x0
  have hN : tvN (spl 32 (vtx g v)) (g.1.length : Int) = gl g.2.1 v := by
    rw [vtx_tvN x0]
    conv => rhs; rw [← List.map_id (gl g.2.1 v)]
    apply List.map_congr_left
    intro u hu
    have h1 := set_all xs u hu
    obtain ⟨k, rfl⟩ := Int.eq_ofNat_of_zero_le h1.1
    rw [Int.toNat_natCast, rdNum_dec (by omega) (by omega)]
    rfl
  have h0 : gx (spl 32 (vtx g v)) 0 = Lib.decDigits (gi g.2.2 v).toNat := by rw [hs]; rfl
  have h1 : gx (spl 32 (vtx g v)) 1 = wo (gi g.1 v) := by rw [hs]; rfl
  have hl : (spl 32 (vtx g v)).length = (gl g.2.1 v).length + 2 := by rw [hs]; unfold vws; simp
  have hp : rdNum (gx (spl 32 (vtx g v)) 0) 40 = gi g.2.2 v := by
    rw [h0]
    obtain ⟨k, hk⟩ := Int.eq_ofNat_of_zero_le p0
    rw [hk, Int.toNat_natCast, rdNum_dec (by omega) (by omega)]
  have ho : plr (gx (spl 32 (vtx g v)) 1) = gi g.1 v := by rw [h1]; exact plr_wo (by omega)
  have hok : tvOk (vtx g v) (g.1.length : Int) = true := tvOk_of ⟨by omega, by omega, by omega, by omega, by rw [hp]; exact p0, by rw [ho]; exact o0⟩ (by rw [hN]; exact xs)
  obtain ⟨e1, e2, e3⟩ := tv_yes hok
  exact ⟨hok, by rw [e1, hp], by rw [e2, ho], by rw [e3, hN]⟩
end Go.Proofs.YtkhkdnmpbfmmeaaGreatDoor
namespace Go.Proofs.YtkhkdnmpbfmmeaaGreatDoor
open Go.RowKit

theorem mkT_len {u : Int} (h1 : u < 1000000000) : (mkT u).length ≤ 9 := by
  unfold mkT
  split
  · simp
  · exact dec_len9 (by omega)
def marks (us : List Int) : List ByteArray := us.map fun u => tx (mkT u)
theorem marks_snoc {us : List Int} {k : Nat} (h : k < us.length) : marks (us.take (k + 1)) = marks (us.take k) ++ [tx (mkT (gi us k))] := by
  unfold marks
  rw [take_gi h, List.map_append]
  rfl
theorem marks_short {us : List Int} (hu : ∀ u ∈ us, -1 ≤ u ∧ u < 256) : ∀ i, i < (marks us).length → (gt (marks us) i).size ≤ 1000 := by
  intro i hi
  rw [gt_get hi]
  unfold marks at hi ⊢
  rw [List.length_map] at hi
  rw [List.getElem_map, tx_size]
  have h1 := hu us[i] (List.getElem_mem hi)
  have := mkT_len (show us[i] < 1000000000 by omega)
  omega
/-- the text of a plan -/
def planT (us : List Int) : List UInt8 := if entOk us = true then jn (marks us) [32] else []
theorem planT_yes {us : List Int} (h : entOk us = true) : planT us = jn (marks us) [32] := if_pos h
theorem planT_no {us : List Int} (h : entOk us = false) : planT us = [] := by unfold planT; rw [h]; rfl

set_option maxRecDepth 100000 in
set_option maxHeartbeats 1600000 in
theorem implPlanText (A : Option Addr) (n c : Nat) (us : List Int) (w : World) (B : Nat) (hB : B ≤ w.heap.size) (ht : Tab w) (ha : RI w A n c us) :
    Calls Tryz.prog 15 #[.slice A n c] w fun e w' => e = .returned (.string (tx (planT us))) ∧ Below B w w' := by
  have b1 := ha.cap; have b2 := ha.top
  have HL := Lib.hid ha.len
  cases h0 : entOk us with
  | false =>
    have E := Lib.hid (planT_no h0)
    go_enter Tryz.func15, Tryz.ntmps15
    go_wp2_with (go_at_call 37; refine (areEntries _ _ _ _ _ ha).mono ?_; rintro e w' ⟨rfl, q, rfl⟩; rw [h0])
    go_ret
    exact ⟨by rw [E.out]; rfl, below_drewN (Below.refl _ _) _⟩
  | true =>
    have h1 := of_decide_eq_true h0
    have hn : n ≤ 256 := by have := h1.1; rw [HL.out] at this; exact this
    have HU := Lib.hid h1.2
    have E := Lib.hid (planT_yes h0)
    clear h1
    go_enter Tryz.func15, Tryz.ntmps15
    go_wp2_with (go_at_call 37; refine (areEntries _ _ _ _ _ ha).mono ?_; rintro e w' ⟨rfl, q, rfl⟩; rw [h0])
    go_loopw [3, 12] (fun v i wr => ∃ k : Nat, k ≤ n ∧ i = .int .i64 k ∧ OS wr w.heap.size v (marks (us.take k)) ∧ Below w.heap.size w wr) (fun _ i _ => n - (intOf i).toNat)
    case atStart => exact ⟨0, Nat.zero_le _, rfl, OS.empty (w := w.drewN q) (Nat.le_refl _), below_alloc (Nat.le_refl _) (below_drewN (Below.refl _ _) _)⟩
    case round =>
      obtain ⟨k, hk, rfl, ho, hbr⟩ := hrel
      have hsz := hbr.size
      have hT := ht.below hbr
      by_cases hlt : k < n
      · obtain ⟨b, off, rfl, hc1⟩ := (ha.keep (keeps_below hbr)).at_ hlt
        have HN := Lib.hid (marks_snoc (us := us) (show k < us.length by rw [HL.out]; exact hlt))
        have H2 := Lib.hid (HU.out _ (gi_mem (show k < us.length by rw [HL.out]; exact hlt)))
        have hll : (marks (us.take k)).length ≤ 4194304 := by unfold marks; rw [List.length_map, List.length_take]; omega
        obtain ⟨Av, cv, rfl⟩ := ho.form
        go_wp2_with (first
          | (go_at_call 36; refine (entryText _ _ H2.out.1 (by have := H2.out; omega) _ (Nat.le_refl _) hT).mono ?_; rintro e w1 ⟨rfl, hb1⟩)
          | (at_builtin; refine wpList_pushS rfl (.tmp 16) (.tmp 19) rfl w1 w.heap.size (.slice Av (marks (us.take k)).length cv) (marks (us.take k)) rfl (ho.below hb1) _ rfl hll (by have := hb1.size; omega) ?_; intro v' w2 ho2 hb2 hc2 hv2))
        have hbw : Below w.heap.size w w2 := (below_then hb1 hsz hbr).trans hb2
        go_roundw
        case rel => exact ⟨k + 1, by omega, by go_num, by rw [HN.out]; exact ho2, hbw⟩
        case measure => simp [intOf]; omega
      · obtain rfl : k = n := by omega
        rw [List.take_of_length_le (by rw [HL.out]; exact Nat.le_refl _)] at ho
        have hll : (marks us).length ≤ 1000 := by unfold marks; rw [List.length_map, HL.out]; omega
        obtain ⟨Av, cv, rfl⟩ := ho.form
        have hr := ho.reads
        have HS := Lib.hid (marks_short HU.out)
        go_wp2_with (go_at_call 38; refine (stringsJoin _ _ _ _ [32] _ hr HS.out (by simp) hll).mono ?_; rintro e w1 ⟨rfl, hb1⟩)
        go_ret
        exact ⟨by rw [E.out]; rfl, (below_then hb1 hsz hbr).mono hB⟩
end Go.Proofs.YtkhkdnmpbfmmeaaGreatDoor
namespace Go.Proofs.YtkhkdnmpbfmmeaaGreatDoor
open Go.RowKit

/-- a row of bytes of the call's own -/
def OBy (w : World) (lo : Nat) (v : Value) (l : List UInt8) : Prop := w.ownsRow lo 5 1 v l.length (l.map fun b => Value.int .u8 b.toNat)
section
variable {w w' : World} {lo : Nat} {v : Value} {l : List UInt8}
theorem OBy.form (h : OBy w lo v l) : ∃ A c, v = .slice A l.length c := by
  rcases h.2 with ⟨rfl, hn⟩ | ⟨g, cap, cur, rfl, _⟩
  · exact ⟨none, 0, by rw [hn]⟩
  · exact ⟨_, _, rfl⟩
theorem OBy.below (h : OBy w lo v l) (hb : Below w.heap.size w w') : OBy w' lo v l := row_below h hb
theorem OBy.more {lo' : Nat} (h : OBy w lo v l) (hl : lo' ≤ lo) : OBy w lo' v l := row_more h hl
theorem OBy.lt (h : OBy w lo v l) : ∀ k, v.ownBlock = some k → lo ≤ k ∧ k < w.heap.size := World.ownsRow.lt h
theorem OBy.cap {A : Option Addr} {n c : Nat} (h : OBy w lo (.slice A n c) l) : n = l.length ∧ n ≤ c ∧ c ≤ 9223372036854775807 := by
  rcases h.2 with ⟨h1, hn⟩ | ⟨g, cap, cur, h1, _, _, h2, h3, _⟩
  · injection h1 with _ h2 h3; omega
  · injection h1 with _ h4 h5; unfold maxLen at h3; omega
end
theorem OBy.empty {w : World} {B : Nat} (hB : B ≤ w.heap.size) : OBy (w.alloc (.cells #[] 5)) B (.slice (some ⟨w.heap.size, 0, none⟩) 0 0) [] := World.ownsRow_lit w #[] 0 hB (by decide) rfl
end Go.Proofs.YtkhkdnmpbfmmeaaGreatDoor
namespace Go.Proofs.YtkhkdnmpbfmmeaaGreatDoor
open Go.RowKit

abbrev TwoD := List Int × List Int
def RTv (w : World) (s0 s1 : Value) (z : TwoD) : Prop := RIv w s0 z.1 ∧ RIv w s1 z.2
def OT (w : World) (lo : Nat) (s0 s1 : Value) (z : TwoD) : Prop := OI 2 w lo s0 z.1 ∧ OI 2 w lo s1 z.2 ∧ Apart s0 s1
section
variable {w w' wb : World} {lo lo' : Nat} {s0 s1 : Value} {z : TwoD} {A0 A1 : Option Addr} {n0 c0 n1 c1 : Nat}
theorem RTv.keep (h : RTv w s0 s1 z) (k : Keeps w w') : RTv w' s0 s1 z := ⟨h.1.keep k, h.2.keep k⟩
theorem RTv.form (h : RTv w s0 s1 z) : ∃ A0 n0 c0 A1 n1 c1, s0 = .slice A0 n0 c0 ∧ s1 = .slice A1 n1 c1 := by
  obtain ⟨⟨A, m, c, e, _⟩, A', m', c', e', _⟩ := h
  exact ⟨A, m, c, A', m', c', e, e'⟩
theorem RTv.r1 (h : RTv w (.slice A0 n0 c0) (.slice A1 n1 c1) z) : RI w A0 n0 c0 z.1 := by
  obtain ⟨⟨A, m, c, e, hr⟩, _⟩ := h
  injection e with e1 e2 e3
  subst e1; subst e2; subst e3
  exact hr
theorem RTv.r2 (h : RTv w (.slice A0 n0 c0) (.slice A1 n1 c1) z) : RI w A1 n1 c1 z.2 := by
  obtain ⟨_, A, m, c, e, hr⟩ := h
  injection e with e1 e2 e3
  subst e1; subst e2; subst e3
  exact hr
theorem RTv.of (h : RI w A0 n0 c0 z.1) (k : RI w A1 n1 c1 z.2) : RTv w (.slice A0 n0 c0) (.slice A1 n1 c1) z := ⟨⟨_, _, _, rfl, h⟩, _, _, _, rfl, k⟩
theorem OT.form (h : OT w lo s0 s1 z) : ∃ A0 c0 A1 c1, s0 = .slice A0 z.1.length c0 ∧ s1 = .slice A1 z.2.length c1 := by
  obtain ⟨A0, c0, e0⟩ := h.1.form
  obtain ⟨A1, c1, e1⟩ := h.2.1.form
  exact ⟨A0, c0, A1, c1, e0, e1⟩
theorem OT.reads (h : OT w lo s0 s1 z) : RTv w s0 s1 z := ⟨h.1.rv, h.2.1.rv⟩
theorem OT.hold (h : OT wb lo s0 s1 z) (f : Far lo wb w) : OT w lo s0 s1 z := ⟨h.1.hold f, h.2.1.hold f, h.2.2⟩
theorem OT.below (h : OT w lo s0 s1 z) (hb : Below w.heap.size w w') : OT w' lo s0 s1 z := ⟨h.1.below hb, h.2.1.below hb, h.2.2⟩
theorem OT.more (h : OT w lo s0 s1 z) (hl : lo' ≤ lo) : OT w lo' s0 s1 z := ⟨h.1.more hl, h.2.1.more hl, h.2.2⟩
theorem OT.nil (w : World) (lo : Nat) : OT w lo (.slice none 0 0) (.slice none 0 0) ([], []) := ⟨OI.nil _ _ _, OI.nil _ _ _, .inl rfl⟩
end
end Go.Proofs.YtkhkdnmpbfmmeaaGreatDoor
namespace Go.Proofs.YtkhkdnmpbfmmeaaGreatDoor
open Go.RowKit

/-- the lines of an answer's first k vertices -/
def ansUp (z : TwoD) : Nat → List UInt8
  | 0 => []
  | k + 1 => ansUp z k ++ (wo (gi z.1 k) ++ [32] ++ mkT (gi z.2 k) ++ [10])
def ansT (z : TwoD) : List UInt8 := if shapeOk z.1 z.2 = true then ansUp z z.1.length else []
theorem ansT_no {z : TwoD} (h : shapeOk z.1 z.2 = false) : ansT z = [] := by unfold ansT; rw [h]; rfl
theorem ansT_yes {z : TwoD} (h : shapeOk z.1 z.2 = true) : ansT z = ansUp z z.1.length := if_pos h
theorem ansUp_len (z : TwoD) (hp : ∀ i, i < z.2.length → gi z.2 i < 256) : ∀ k, k ≤ z.2.length → (ansUp z k).length ≤ 15 * k
  | 0, _ => by simp [ansUp]
  | k + 1, hk => by
    have ih := ansUp_len z hp k (by omega)
    have h1 := wo_len (gi z.1 k)
    have h2 := mkT_len (show gi z.2 k < 1000000000 by have := hp k (by omega); omega)
    unfold ansUp
    rw [List.length_append, List.length_append, List.length_append, List.length_append, List.length_singleton, List.length_singleton]
    omega

set_option maxRecDepth 100000 in
set_option maxHeartbeats 1600000 in
theorem implAnswerText (s0 s1 : Value) (z : TwoD) (w : World) (B : Nat) (hB : B ≤ w.heap.size) (hT : Tab w) (hP : PN w) (ha : RTv w s0 s1 z) :
    Calls Tryz.prog 13 #[.agg #[s0, s1]] w fun e w' => e = .returned (.string (tx (ansT z))) ∧ Below B w w' := by
  obtain ⟨A0, n0, c0, A1, n1, c1, rfl, rfl⟩ := ha.form
  have b1 := ha.r1.cap; have b2 := ha.r1.top; have b3 := ha.r2.cap; have b4 := ha.r2.top
  have HL := Lib.hid ha.r1.len; have HM := Lib.hid ha.r2.len
  have bx := Box.new w 41 #[.slice A0 n0 c0, .slice A1 n1 c1]
  have hwL : Below w.heap.size w (w.alloc (.cells #[.slice A0 n0 c0, .slice A1 n1 c1] 41)) := below_alloc (Nat.le_refl _) (Below.refl _ _)
  have q0 : (w.alloc (.cells #[.slice A0 n0 c0, .slice A1 n1 c1] 41)).cell? ⟨w.heap.size, 0, none⟩ = some (.slice A0 n0 c0) := bx.cell 0
  have q1 : (w.alloc (.cells #[.slice A0 n0 c0, .slice A1 n1 c1] 41)).cell? ⟨w.heap.size, 1, none⟩ = some (.slice A1 n1 c1) := bx.cell 1
  cases hs : shapeOk z.1 z.2 with
  | false =>
    have E := Lib.hid (ansT_no hs)
    have HH := Lib.hid hs
    clear hs
    go_enter Tryz.func13, Tryz.ntmps13
    go_wp2_with fail
    refine (isShape _ _ _ _ _ _ _ _ _ _ (Nat.le_refl _) (ha.r1.keep (keeps_below hwL)) (ha.r2.keep (keeps_below hwL))).mono ?_; rintro e w1 ⟨rfl, hb1⟩
    rw [HH.out]
    go_wp2
    go_ret
    exact ⟨by rw [E.out]; rfl, (below_then hb1 hwL.size hwL).mono hB⟩
  | true =>
    have hs' := of_decide_eq_true hs
    have hn : n0 ≤ 256 := by have := hs'.1; rw [HL.out] at this; exact this
    have hnm : n0 = n1 := by have := hs'.2.1; rw [HL.out, HM.out] at this; exact this
    have HPl := Lib.hid (fun i (hi : i < n1) => hs'.2.2.2 _ (gi_mem (show i < z.2.length by rw [HM.out]; exact hi)))
    have HWn := Lib.hid (fun i (hi : i < n0) => hs'.2.2.1 _ (gi_mem (show i < z.1.length by rw [HL.out]; exact hi)))
    have E := Lib.hid (ansT_yes hs)
    have HH := Lib.hid hs
    have HE := Lib.hid (ansUp_len z (fun i hi => by have := hs'.2.2.2 _ (gi_mem hi); omega))
    subst hnm
    clear hs hs'
    go_enter Tryz.func13, Tryz.ntmps13
    go_wp2_with fail
    refine (isShape _ _ _ _ _ _ _ _ _ _ (Nat.le_refl _) (ha.r1.keep (keeps_below hwL)) (ha.r2.keep (keeps_below hwL))).mono ?_; rintro e w1 ⟨rfl, hb1⟩
    rw [HH.out]
    have bx1 := bx.below hb1 bx.lt
    have k0 : w1.cell? ⟨w.heap.size, 0, none⟩ = some (.slice A0 n0 c0) := bx1.cell 0
    have k1 : w1.cell? ⟨w.heap.size, 1, none⟩ = some (.slice A1 n0 c1) := bx1.cell 1
    have hw1 := below_then hb1 hwL.size hwL
    have hs1 : w.heap.size + 1 ≤ w1.heap.size := bx1.lt
    clear q0 q1
    go_wp2
    go_loopw [3, 12] (fun v i wr => ∃ k : Nat, k ≤ n0 ∧ i = .int .i64 k ∧ v = .string (tx (ansUp z k)) ∧ Below w.heap.size w wr ∧ Box wr w.heap.size 41 #[.slice A0 n0 c0, .slice A1 n0 c1]) (fun _ i _ => n0 - (intOf i).toNat)
    case atStart => exact ⟨0, Nat.zero_le _, rfl, rfl, hw1, bx1⟩
    case round =>
      obtain ⟨k, hk, rfl, rfl, hbr, hbx⟩ := hrel
      have hsz := hbr.size
      have hbl := hbx.lt
      have hTr := hT.below hbr
      by_cases hlt : k < n0
      · obtain ⟨b, off, rfl, hc1⟩ := ha.r1.at_ hlt
        obtain ⟨b', off', rfl, hc2⟩ := ha.r2.at_ hlt
        have HS : ∀ w', Below wr.heap.size wr w' → (w'.cell? ⟨w.heap.size, 0, none⟩ = some (.slice (some ⟨b, off, none⟩) n0 c0) ∧ w'.cell? ⟨w.heap.size, 1, none⟩ = some (.slice (some ⟨b', off', none⟩) n0 c1) ∧ w'.cell? ⟨b, off + k, none⟩ = some (.int .i64 (gi z.1 k)) ∧ w'.cell? ⟨b', off' + k, none⟩ = some (.int .i64 (gi z.2 k)) ∧ w'.cell? ⟨0, 0, none⟩ = some (.string { data := #[101, 118, 101, 110] }) ∧ w'.cell? ⟨0, 1, none⟩ = some (.string { data := #[111, 100, 100] })) := fun w' h => by
          have bx' := hbx.below h hbl
          have K := (keeps_below hbr).trans (keeps_below h)
          exact ⟨bx'.cell 0, bx'.cell 1, K _ _ hc1, K _ _ hc2, K _ _ hP.1, K _ _ hP.2⟩
        obtain ⟨u0, u1, u2, u3, u4, u5⟩ := HS wr (Below.refl _ _)
        have H3 := Lib.hid HS
        have HP1 := HPl.out k hlt
        have HP2 := Lib.hid HP1
        have hmk : (tx (mkT (gi z.2 k))).size ≤ 9 := by rw [tx_size]; exact mkT_len (by omega)
        have hau : (tx (ansUp z k)).size ≤ 4000 := by rw [tx_size]; have := HE.out k (by rw [HM.out]; exact hk); omega
        have z1 : 4 + 1 + (tx (mkT (gi z.2 k))).size ≤ 9223372036854775807 := by omega
        have z2 : 4 + 1 + (tx (mkT (gi z.2 k))).size + 1 ≤ 9223372036854775807 := by omega
        have z3 : (tx (ansUp z k)).size + (4 + 1 + (tx (mkT (gi z.2 k))).size + 1) ≤ 9223372036854775807 := by omega
        have x1 : ¬ 9223372036854775807 < 5 + (tx (mkT (gi z.2 k))).size := by omega
        have x2 : ¬ 9223372036854775807 < 5 + (tx (mkT (gi z.2 k))).size + 1 := by omega
        have x3 : ¬ 9223372036854775807 < (tx (ansUp z k)).size + (5 + (tx (mkT (gi z.2 k))).size + 1) := by omega
        have v1 : ¬ 9223372036854775807 < 4 + (tx (mkT (gi z.2 k))).size := by omega
        have v2 : ¬ 9223372036854775807 < 4 + (tx (mkT (gi z.2 k))).size + 1 := by omega
        have v3 : ¬ 9223372036854775807 < (tx (ansUp z k)).size + (4 + (tx (mkT (gi z.2 k))).size + 1) := by omega
        have hwn := HWn.out k hlt
        have HU : Hid (ansUp z (k + 1) = ansUp z k ++ (wo (gi z.1 k) ++ [32] ++ mkT (gi z.2 k) ++ [10])) := Lib.hid rfl
        clear HS hc1 hc2 hmk hau HP1
        generalize gi z.1 k = o at *
        rcases hwn with rfl | rfl
        · go_wp2_with fail
          go_region_held3 (fun w' => w'.cell? ⟨w.heap.size, 0, none⟩ = some (.slice (some ⟨b, off, none⟩) n0 c0) ∧ w'.cell? ⟨w.heap.size, 1, none⟩ = some (.slice (some ⟨b', off', none⟩) n0 c1) ∧ w'.cell? ⟨b, off + k, none⟩ = some (.int .i64 0) ∧ w'.cell? ⟨b', off' + k, none⟩ = some (.int .i64 (gi z.2 k)) ∧ w'.cell? ⟨0, 0, none⟩ = some (.string { data := #[101, 118, 101, 110] }) ∧ w'.cell? ⟨0, 1, none⟩ = some (.string { data := #[111, 100, 100] }))
            (refine ⟨?_, ?_, ?_, ?_, ?_, ?_⟩ <;> repeat (first | with_reducible assumption | with_reducible refine keepD ?_ | with_reducible refine keepA ?_))
            ((go_at_call 36; refine (entryText _ _ HP2.out.1 (by have := HP2.out.2; omega) _ (Nat.le_refl _) (by exact hTr.below (Below.drew (Below.refl _ _)))).mono ?_; rintro e w3 ⟨rfl, hb3⟩; have hx3 : Below wr.heap.size wr w3 := below_undrew hb3; obtain ⟨e0, e1, e2, e3, e4, e5⟩ := H3.out w3 hx3))
          have hbw := below_then hx3 hsz hbr
          go_wp2
          refine ⟨⟨k + 1, by omega, by go_num, ?_, hbw, hbx.below hx3 hbl⟩, ?_⟩
          · show Value.string (tx (ansUp z k) ++ (tx (wo 0) ++ tx [32] ++ tx (mkT (gi z.2 k)) ++ tx [10])) = _
            rw [tx_app, tx_app, tx_app, tx_app, HU.out]
          · simp [intOf]; omega
        · go_wp2_with fail
          go_region_held3 (fun w' => w'.cell? ⟨w.heap.size, 0, none⟩ = some (.slice (some ⟨b, off, none⟩) n0 c0) ∧ w'.cell? ⟨w.heap.size, 1, none⟩ = some (.slice (some ⟨b', off', none⟩) n0 c1) ∧ w'.cell? ⟨b, off + k, none⟩ = some (.int .i64 1) ∧ w'.cell? ⟨b', off' + k, none⟩ = some (.int .i64 (gi z.2 k)) ∧ w'.cell? ⟨0, 0, none⟩ = some (.string { data := #[101, 118, 101, 110] }) ∧ w'.cell? ⟨0, 1, none⟩ = some (.string { data := #[111, 100, 100] }))
            (refine ⟨?_, ?_, ?_, ?_, ?_, ?_⟩ <;> repeat (first | with_reducible assumption | with_reducible refine keepD ?_ | with_reducible refine keepA ?_))
            ((go_at_call 36; refine (entryText _ _ HP2.out.1 (by have := HP2.out.2; omega) _ (Nat.le_refl _) (by exact hTr.below (Below.drew (Below.refl _ _)))).mono ?_; rintro e w3 ⟨rfl, hb3⟩; have hx3 : Below wr.heap.size wr w3 := below_undrew hb3; obtain ⟨e0, e1, e2, e3, e4, e5⟩ := H3.out w3 hx3))
          have hbw := below_then hx3 hsz hbr
          go_wp2
          refine ⟨⟨k + 1, by omega, by go_num, ?_, hbw, hbx.below hx3 hbl⟩, ?_⟩
          · show Value.string (tx (ansUp z k) ++ (tx (wo 1) ++ tx [32] ++ tx (mkT (gi z.2 k)) ++ tx [10])) = _
            rw [tx_app, tx_app, tx_app, tx_app, HU.out]
          · simp [intOf]; omega
      · obtain rfl : k = n0 := by omega
        go_wp2
        go_ret
        exact ⟨by rw [E.out, HL.out]; rfl, hbr.mono hB⟩
end Go.Proofs.YtkhkdnmpbfmmeaaGreatDoor
namespace Go.Proofs.YtkhkdnmpbfmmeaaGreatDoor
open Go.RowKit

/-- how many whole lines; whether more follows the last of them -/
def anN (l : List UInt8) : Nat := (spl 10 l).length - 1
def mor (l : List UInt8) : Bool := !(gx (spl 10 l) (anN l)).isEmpty
theorem anN_len (l : List UInt8) : (spl 10 l).length = anN l + 1 := by
  have := List.length_pos_iff.2 (spl_ne 10 l)
  unfold anN
  omega
theorem spl_piece {c : UInt8} {l : List UInt8} {x : List UInt8} (hx : x ∈ spl c l) : x.length ≤ l.length := by
  have h := spl_length c _ l (Nat.le_refl _)
  have : ∀ (xs : List (List UInt8)), x ∈ xs → x.length + 1 ≤ (xs.map (·.length + 1)).sum := by
    intro xs
    induction xs with
    | nil => intro h; cases h
    | cons y ys ih =>
      intro h
      rw [List.map_cons, List.sum_cons]
      rcases List.mem_cons.1 h with rfl | h
      · omega
      · have := ih h; omega
  have := this _ hx
  omega
theorem OS.pop {w : World} {lo n c : Nat} {A : Option Addr} {xs : List ByteArray} (h : OS w lo (.slice A (n + 1) c) xs) : OS w lo (.slice A n c) (xs.take n) := by
  obtain ⟨h1, h2⟩ := h
  rcases h2 with ⟨e, _⟩ | ⟨g', cap, cur, e, hb, hg, hn, hc, hs, ht⟩
  · injection e with e1 e2; omega
  · injection e with e1 e2 e3
    subst e3
    have hl : (xs.take n).length = n := by rw [List.length_take]; omega
    refine ⟨by simp, .inr ⟨g', c, cur, by rw [hl, e1], hb, hg, by omega, hc, hs, ?_⟩⟩
    rw [hl, List.map_take, ← ht, List.take_take, Nat.min_eq_left (by omega)]
    simp
theorem last_empty (s : ByteArray) : (gt (splT 10 s) (anN s.data.toList)).toList.isEmpty = !mor s.data.toList := by
  unfold mor
  rw [Bool.not_not, Lib.toList_data, gtd]
theorem mor_nil : mor [] = false := by decide
theorem anN_nil : anN [] = 0 := by decide
theorem linesLen (s : ByteArray) : (splT 10 s).length = anN s.data.toList + 1 := by rw [splT_len, anN_len]

/-- what impl.linesOf gives: the whole lines, or all pieces -/
def impLn (s : ByteArray) : List ByteArray := if mor s.data.toList then splT 10 s else (splT 10 s).take (anN s.data.toList)
set_option maxRecDepth 100000 in
theorem implLines (s : ByteArray) (w : World) (B : Nat) (hB : B ≤ w.heap.size) (hM : Max w) (hs : s.size ≤ 4000000) :
    Calls Tryz.prog 23 #[.string s] w fun e w' => ∃ v, e = .returned (.tuple #[v, .bool (!mor s.data.toList)]) ∧ OS w' B v (impLn s) ∧ Below B w w' := by
  have HL := Lib.hid (linesLen s)
  have HE := last_empty s
  have HI : Hid (impLn s = if mor s.data.toList then splT 10 s else (splT 10 s).take (anN s.data.toList)) := Lib.hid rfl
  by_cases h0 : s.size < 1
  · have hs0 : s.toList.isEmpty = true := by rw [empty_of h0, Lib.toList_data]; rfl
    have E := Lib.hid (show s.data.toList = [] by rw [empty_of h0])
    clear h0 HE HL
    go_enter Tryz.func23, Tryz.ntmps23
    go_wp2
    refine bodyPost_ret (v := .tuple #[.slice none 0 0, .bool true]) (by simp [results, Tryz.results23, go_sem]) rfl ?_
    refine ⟨_, by rw [E.out, mor_nil]; rfl, ?_, Below.refl _ _⟩
    rw [HI.out, E.out, mor_nil, anN_nil]
    exact OS.nil _ _
  have hs0 : s.toList.isEmpty = false := filled_of h0
  clear h0
  generalize anN s.data.toList = n at *
  go_enter Tryz.func23, Tryz.ntmps23
  go_wp2_with fail
  refine (stringsSplit s 10 _ hM hs).mono ?_; rintro e w1 ⟨v, rfl, ho1, hb1⟩
  obtain ⟨A1, c1, rfl⟩ := ho1.form
  rw [HL.out] at ho1 ⊢
  have hR := ho1.reads
  have hcap := hR.cap
  have htop := hR.top
  have hp := ho1.pop
  have hb2 := hb1.mono hB
  obtain ⟨ba, oa, rfl, ka⟩ := hR.at_ (show n < n + 1 by omega)
  have e1 : IntKind.i64.wrap ((n : Int) + 1 - 1) = (n : Int) := by rw [show (n : Int) + 1 - 1 = n by omega]; exact IntWalk.i64_in _ (by omega)
  have i1 : (n : Int) ≤ (c1 : Int) := by omega
  have i2 : (0 : Int) ≤ (n : Int) := by omega
  have i3 : (n : Int) < (n : Int) + 1 := by omega
  have i4 : n ≤ c1 := by omega
  cases hm : mor s.data.toList with
  | true =>
    have HM := Lib.hid hm
    rw [hm] at HE HI
    replace HE : (gt (splT 10 s) n).toList.isEmpty = false := HE
    clear hm
    go_wp2
    refine bodyPost_ret (v := .tuple #[.slice (some ⟨ba, oa, none⟩) (n + 1) c1, .bool false]) (by simp [results, Tryz.results23, go_sem]) rfl ?_
    exact ⟨_, by rw [HM.out]; rfl, by rw [HI.out, if_pos trivial]; exact ho1.more hB, hb2⟩
  | false =>
    have HM := Lib.hid hm
    rw [hm] at HE HI
    replace HE : (gt (splT 10 s) n).toList.isEmpty = true := HE
    clear hm
    go_wp2
    refine bodyPost_ret (v := .tuple #[.slice (some ⟨ba, oa, none⟩) n c1, .bool true]) (by simp [results, Tryz.results23, go_sem]) rfl ?_
    exact ⟨_, by rw [HM.out]; rfl, by rw [HI.out, if_neg (by decide)]; exact hp.more hB, hb2⟩
/-- an append behind stores: the heap's size as an equation of its own -/
theorem wpList_pushHT {ops : Array Oper} {rest : List Oper} {o : Oper} {a : Act} {Q : Exit → Act → World → Prop} (hgd : o.guard = none) (s x : Operand)
    (ho : o.op = .call { callee := .builtin .append, args := #[s, x], argTypes := #[27, 27] })
    (w : World) (H : Nat) (hH : w.heap.size = H) (lo : Nat) (v : Value) (xs : List Int) (hs : a.eval s = v) (hown : OI 2 w lo v xs) (y : Int) (hx : a.eval x = .slice (some ⟨H, 0, none⟩) 1 1)
    (hn : xs.length ≤ 4194304) (hlo : lo ≤ H)
    (h : ∀ v' w', OI 2 w' lo v' (xs ++ [y]) → Below lo w w' → Chg (fun z => v.ownBlock = some z) w w' → (∀ b, v'.ownBlock = some b → v.ownBlock = some b ∨ w.heap.size ≤ b) →
      wpList Tryz.prog ops Q rest (a.put o.dst v') w') : wpList Tryz.prog ops Q (o :: rest) a (w.alloc (.cells #[.int .i64 y] 2)) := by
  subst hH
  exact wpList_pushI hgd s x ho w lo v xs hs hown y hx hn hlo h
theorem gt_impLn {s : ByteArray} {k : Nat} (hk : k < (impLn s).length) : (gt (impLn s) k).data.toList = gx (spl 10 s.data.toList) k := by
  unfold impLn at hk ⊢
  split
  · exact gtd 10 s k
  · rename_i h
    rw [if_neg h, List.length_take] at hk
    rw [gt_take (by omega)]
    exact gtd 10 s k
theorem impLn_len (s : ByteArray) : (impLn s).length = anN s.data.toList + (if mor s.data.toList then 1 else 0) := by
  unfold impLn
  split
  · rw [linesLen]
  · rw [List.length_take, linesLen]; omega
theorem line_small {s : ByteArray} {k : Nat} : (gt (splT 10 s) k).size ≤ s.size := by
  rw [Lib.size_eq, Lib.size_eq, gtd]
  by_cases h : k < (spl 10 s.data.toList).length
  · exact spl_piece (gx_mem h)
  · unfold gx
    rw [List.getD_eq_getElem?_getD, List.getElem?_eq_none (by omega)]
    simp
theorem impLn_small {s : ByteArray} {k : Nat} (hs : s.size ≤ 4000000) : (gt (impLn s) k).size ≤ 4000000 := by
  unfold impLn
  split
  · exact Nat.le_trans line_small hs
  · by_cases hk : k < anN s.data.toList
    · rw [gt_take hk]; exact Nat.le_trans line_small hs
    · unfold gt
      rw [List.getD_eq_getElem?_getD, List.getElem?_eq_none (by rw [List.length_take]; omega)]
      simp
end Go.Proofs.YtkhkdnmpbfmmeaaGreatDoor
namespace Go.Proofs.YtkhkdnmpbfmmeaaGreatDoor
open Go.RowKit

def gmW : List UInt8 := [103, 97, 109, 101]
def gmB : List UInt8 := [103, 97, 109, 101, 32]
/-- the number of a first line; 0: it is wrong -/
def hdN (l : List UInt8) : Int := if (spl 32 l).length = 2 ∧ gx (spl 32 l) 0 = gmW ∧ 1 ≤ rdNum (gx (spl 32 l) 1) 256 then rdNum (gx (spl 32 l) 1) 256 else 0
theorem spl_long {c : UInt8} {l : List UInt8} (h : c ∈ l) : 2 ≤ (spl c l).length := by
  obtain ⟨a, b, rfl, ha⟩ := spl_cut h
  rw [spl_hit c b a ha]
  have := List.length_pos_iff.2 (spl_ne c b)
  simp
  omega
theorem hd_pre (r : List UInt8) : hdN (gmB ++ r) = if 1 ≤ rdNum r 256 then rdNum r 256 else 0 := by
  have e : spl 32 (gmB ++ r) = gmW :: spl 32 r := spl_hit 32 r gmW (by decide)
  unfold hdN
  rw [e]
  by_cases h : (32 : UInt8) ∈ r
  · have h2 := spl_long h
    have hr : rdNum r 256 = -1 := by
      unfold rdNum
      rw [if_neg]
      intro k
      have := (of_decide_eq_true k.1).2.2.2 32 h
      exact absurd this (by decide)
    rw [hr, if_neg (fun k => by have := k.1; simp at this; omega), if_neg (by omega)]
  · rw [spl_none 32 r h]
    by_cases h1 : 1 ≤ rdNum r 256
    · rw [if_pos ⟨rfl, rfl, h1⟩, if_pos h1]; rfl
    · rw [if_neg (fun k => h1 k.2.2), if_neg h1]
theorem hd_no {l : List UInt8} (h : gmB.isPrefixOf l = false) : hdN l = 0 := by
  unfold hdN
  rw [if_neg]
  rintro ⟨h1, h2, h3⟩
  by_cases hc : (32 : UInt8) ∈ l
  · obtain ⟨a, b, rfl, ha⟩ := spl_cut hc
    rw [spl_hit 32 b a ha] at h2
    have h2' : a = gmW := h2
    subst h2'
    rw [show gmW ++ 32 :: b = gmB ++ b from rfl] at h
    rw [List.isPrefixOf_iff_prefix.2 (List.prefix_append _ _)] at h
    cases h
  · rw [spl_none 32 l hc] at h1
    simp at h1
theorem hd_nil : hdN [] = 0 := hd_no (by decide)

/-- what is behind the word -/
def cutR (l : List UInt8) : List UInt8 := Lib.trimPrefix l gmB
theorem stringsCut (s : ByteArray) (w : World) :
    Calls Tryz.prog 24 #[.string s, .string ⟨#[103, 97, 109, 101, 32]⟩] w fun e w' => e = .returned (.tuple #[.string (tx (cutR s.data.toList)), .bool (Lib.hasPrefix s.data.toList gmB)]) ∧ w' = w :=
  Any.strings_CutPrefix { Tryz.lCutP with } s ⟨#[103, 97, 109, 101, 32]⟩ w
end Go.Proofs.YtkhkdnmpbfmmeaaGreatDoor
namespace Go.Proofs.YtkhkdnmpbfmmeaaGreatDoor
open Go.RowKit

/-- the number of the first line; line j; is it good; the game of the first k lines -/
def tgH (l : List UInt8) : Int := if 0 < anN l then hdN (gx (spl 10 l) 0) else 0
noncomputable def tgG (l : List UInt8) (n : Int) (j : Nat) : Bool := decide (j < anN l) && tvOk (gx (spl 10 l) j) n
noncomputable def tgUp (l : List UInt8) (n : Int) (k : Nat) : ParD := ((List.range k).map fun j => tvO (gx (spl 10 l) (j + 1)) n, (List.range k).map fun j => tvX (gx (spl 10 l) (j + 1)) n, (List.range k).map fun j => tvP (gx (spl 10 l) (j + 1)) n)
noncomputable def tgF (l : List UInt8) : Int := firstI (fun j => !tgG l (tgH l) (j + 1)) (tgH l).toNat
noncomputable def tgE (l : List UInt8) : Int := if 20000 < l.length then -2 else if tgH l = 0 then 0 else if 0 ≤ tgF l then tgF l + 1 else if tgH l + 1 < (anN l : Int) ∨ mor l = true then tgH l + 1 else -1
noncomputable def tgZ (l : List UInt8) : ParD := if tgE l = -1 then tgUp l (tgH l) (tgH l).toNat else ([], [], [])
theorem tgUp_succ (l : List UInt8) (n : Int) (k : Nat) : tgUp l n (k + 1) = ((tgUp l n k).1 ++ [tvO (gx (spl 10 l) (k + 1)) n], (tgUp l n k).2.1 ++ [tvX (gx (spl 10 l) (k + 1)) n], (tgUp l n k).2.2 ++ [tvP (gx (spl 10 l) (k + 1)) n]) := by
  unfold tgUp
  rw [List.range_succ, List.map_append, List.map_append, List.map_append]
  rfl
theorem tgUp_l (l : List UInt8) (n : Int) (k : Nat) : (tgUp l n k).1.length = k ∧ (tgUp l n k).2.1.length = k ∧ (tgUp l n k).2.2.length = k := by simp [tgUp]
theorem tgZ_no {l : List UInt8} (e : tgE l ≠ -1) : tgZ l = ([], [], []) := if_neg e
theorem tg_long {l : List UInt8} (h : 20000 < l.length) : tgE l = -2 ∧ tgZ l = ([], [], []) := by
  have e : tgE l = -2 := by unfold tgE; rw [if_pos h]
  exact ⟨e, tgZ_no (by omega)⟩
theorem tg_head {l : List UInt8} (h3 : l.length ≤ 20000) (h : tgH l = 0) : tgE l = 0 ∧ tgZ l = ([], [], []) := by
  have e : tgE l = 0 := by unfold tgE; rw [if_neg (by omega), if_pos h]
  exact ⟨e, tgZ_no (by omega)⟩
theorem tg_bad {l : List UInt8} (h3 : l.length ≤ 20000) {m k : Nat} (hm : tgH l = (m : Int)) (hk : k < m) (hall : ∀ j, j < k → tgG l m (j + 1) = true) (hb : tgG l m (k + 1) = false) : tgE l = (k : Int) + 1 ∧ tgZ l = ([], [], []) := by
  have f : tgF l = (k : Int) := by
    unfold tgF
    rw [hm]
    exact firstI_hit (by rw [hb]; rfl) (fun j hj => by rw [hall j hj]; rfl) (by omega)
  have e : tgE l = (k : Int) + 1 := by unfold tgE; rw [if_neg (by omega), if_neg (by omega), f, if_pos (by omega)]
  exact ⟨e, tgZ_no (by omega)⟩
theorem tgF_none {l : List UInt8} {m : Nat} (hm : tgH l = (m : Int)) (hall : ∀ j, j < m → tgG l m (j + 1) = true) : tgF l = -1 := by
  unfold tgF
  rw [hm, Int.toNat_natCast]
  exact firstI_none (fun j hj => by rw [hall j hj]; rfl)
theorem tg_more {l : List UInt8} (h3 : l.length ≤ 20000) {m : Nat} (hm : tgH l = (m : Int)) (h0 : 0 < m) (hall : ∀ j, j < m → tgG l m (j + 1) = true) (h : m + 1 < anN l ∨ mor l = true) : tgE l = (m : Int) + 1 ∧ tgZ l = ([], [], []) := by
  have e : tgE l = (m : Int) + 1 := by
    unfold tgE
    rw [if_neg (by omega), if_neg (by omega), tgF_none hm hall, if_neg (by omega), if_pos (h.imp (fun h => by omega) id), hm]
  exact ⟨e, tgZ_no (by omega)⟩
theorem tg_all {l : List UInt8} (h3 : l.length ≤ 20000) {m : Nat} (hm : tgH l = (m : Int)) (h0 : 0 < m) (hall : ∀ j, j < m → tgG l m (j + 1) = true) (h : ¬ (m + 1 < anN l)) (h2 : mor l = false) : tgE l = -1 ∧ tgZ l = tgUp l m m := by
  have e : tgE l = -1 := by
    unfold tgE
    rw [if_neg (by omega), if_neg (by omega), tgF_none hm hall, if_neg (by omega), if_neg (fun k => k.elim (fun k => h (by omega)) (fun k => by rw [h2] at k; cases k))]
  refine ⟨e, ?_⟩
  unfold tgZ
  rw [if_pos e, hm, Int.toNat_natCast]
theorem tgG_no {l : List UInt8} {n : Int} {j : Nat} (h : ¬ j < anN l) : tgG l n j = false := by unfold tgG; rw [decide_eq_false h]; rfl
theorem tgG_bad {l : List UInt8} {n : Int} {j : Nat} (h : tvOk (gx (spl 10 l) j) n = false) : tgG l n j = false := by unfold tgG; rw [h, Bool.and_false]
theorem tgG_yes {l : List UInt8} {n : Int} {j : Nat} (h1 : j < anN l) (h : tvOk (gx (spl 10 l) j) n = true) : tgG l n j = true := by unfold tgG; rw [h, decide_eq_true h1]; rfl
theorem tgG_lt {l : List UInt8} {n : Int} {j : Nat} (h : tgG l n j = true) : j < anN l := by
  unfold tgG at h
  rw [Bool.and_eq_true] at h
  exact of_decide_eq_true h.1
theorem chgF {w w' : World} (h : Below w.heap.size w w') : Chg (fun _ => False) w w' := ⟨h.os, h.tape, h.output, h.size, fun x hx _ => h.block x hx⟩
theorem par_own1 {w : World} {lo lo' n : Nat} {s0 s1 s2 v u : Value} {g : ParD} {nx : List Int} {ys : List ByteArray} (h : ParX w lo s0 s1 s2 v g nx) (k : w.ownsRow lo' 9 1 u n (ys.map Value.string)) : ∀ b, u.ownBlock = some b → s1.ownBlock ≠ some b := by
  obtain ⟨cs, ⟨_, k1, _⟩, _⟩ := h
  exact own_ne k k1 (by decide)
theorem cut_pre {l : List UInt8} (h : Lib.hasPrefix l gmB = true) : ∃ r, l = gmB ++ r ∧ cutR l = r := by
  obtain ⟨r, hr⟩ := List.isPrefixOf_iff_prefix.1 h
  refine ⟨r, hr.symm, ?_⟩
  unfold cutR Lib.trimPrefix
  rw [if_pos h, ← hr, List.drop_left]
set_option maxRecDepth 100000 in
set_option maxHeartbeats 3200000 in
theorem implTextGame (s : ByteArray) (w : World) (B : Nat) (hB : B ≤ w.heap.size) (hP : PN w) (hM : Max w) :
    Calls Tryz.prog 8 #[.string s] w fun e w' => ∃ t0 t1 t2, e = .returned (.tuple #[.agg #[t0, t1, t2], .int .i64 (tgE s.data.toList)]) ∧ OPar w' B t0 t1 t2 (tgZ s.data.toList) ∧ Below B w w' := by
  have HZ := Lib.hid (Lib.size_eq s)
  have bR := Box.new w 32 #[.slice none 0 0, .slice none 0 0, .slice none 0 0]
  have hbR : Below w.heap.size w (w.alloc (.cells #[.slice none 0 0, .slice none 0 0, .slice none 0 0] 32)) := below_alloc (Nat.le_refl _) (Below.refl _ _)
  by_cases h1 : 20000 < s.size
  · have E := Lib.hid (tg_long (l := s.data.toList) (by rw [← HZ.out]; exact h1))
    have F0 := bR.hot 0; have F1 := bR.hot 1; have F2 := bR.hot 2
    have R0 := bR.c0; have R1 := bR.c1; have R2 := bR.c2
    go_enter Tryz.func8, Tryz.ntmps8
    go_wp2
    exact bodyPost_ret (v := .tuple #[.agg #[.slice none 0 0, .slice none 0 0, .slice none 0 0], .int .i64 (-2)]) (by simp [results, Tryz.results8, go_sem, R0, R1, R2]) rfl ⟨_, _, _, by rw [E.out.1], by rw [E.out.2]; exact OPar.nil _ _, hbR.mono hB⟩
  replace h1 : s.size ≤ 20000 := by omega
  have hs4 : s.size ≤ 4000000 := by omega
  have HS := Lib.hid (show s.data.toList.length ≤ 20000 by rw [← HZ.out]; exact h1)
  go_enter Tryz.func8, Tryz.ntmps8
  go_wp2_with fail
  refine (implLines s _ _ (Nat.le_refl _) (hM.keep (keeps_below hbR)) hs4).mono ?_; rintro e w1 ⟨v1, rfl, ho1, hb1⟩
  obtain ⟨AL, cL, rfl⟩ := ho1.form
  have hsz1 : w.heap.size + 1 ≤ w1.heap.size := by have := hb1.size; simpa using this
  have bR1 : Box w1 w.heap.size 32 #[.slice none 0 0, .slice none 0 0, .slice none 0 0] := bR.below hb1 bR.lt
  have hw1 : Below w.heap.size w w1 := below_then hb1 hbR.size hbR
  replace ho1 := ho1.more (show w.heap.size + 1 ≤ _ by simp)
  have HGL := Lib.hid (fun k hk => gt_impLn (s := s) (k := k) hk)
  have HLS := Lib.hid (fun k => impLn_small (s := s) (k := k) hs4)
  have HLen := Lib.hid (impLn_len s)
  have HBadE := Lib.hid (fun m k hm hk ha hb => tg_bad (l := s.data.toList) HS.out (m := m) (k := k) hm hk ha hb)
  have HHead := Lib.hid (fun h => tg_head (l := s.data.toList) HS.out h)
  have HMore := Lib.hid (fun m hm h0 ha h => tg_more (l := s.data.toList) HS.out (m := m) hm h0 ha h)
  have HAll := Lib.hid (fun m hm h0 ha h h2 => tg_all (l := s.data.toList) HS.out (m := m) hm h0 ha h h2)
  generalize impLn s = lns at *
  generalize hl : s.data.toList = l at *
  have HLs := Lib.hid hl
  clear hl hbR bR hb1 h1
  obtain ⟨N, hN⟩ : ∃ N, anN l = N := ⟨_, rfl⟩
  obtain ⟨bo, hbo⟩ : ∃ b, mor l = b := ⟨_, rfl⟩
  rw [hbo] at HLen ⊢
  rw [hN] at HLen
  have HBO := Lib.hid hbo
  have HN := Lib.hid hN
  clear hbo hN
  have hcap := ho1.reads.cap
  have htop := ho1.reads.top
  obtain ⟨hd, hhd⟩ : ∃ x : ByteArray, x = if 0 < N then gt lns 0 else ⟨#[]⟩ := ⟨_, rfl⟩
  have HHD := Lib.hid hhd
  have HTG : Hid (tgH l = hdN hd.data.toList) := Lib.hid (by
    unfold tgH
    rw [hhd, HN.out]
    by_cases h0 : 0 < N
    · have h5 := HLen.out
      rw [if_pos h0, if_pos h0, HGL.out 0 (by omega)]
    · rw [if_neg h0, if_neg h0]; exact hd_nil.symm)
  clear hhd
  go_upto_region 5 with (fail)
  go_cut [36] (fun u36 wx => Hid (u36 = .bool (decide (0 < N)) ∧ wx = w1))
  case first =>
    by_cases h0 : 0 < N
    · have hl0 : 0 < lns.length := by have h5 := HLen.out; omega
      have hli : (0 : Int) < (lns.length : Int) := by omega
      have HD := Lib.hid (decide_eq_true h0)
      cases bo with
      | true =>
        have hl1 : (1 : Int) < (lns.length : Int) := by have h5 := HLen.out; rw [if_pos rfl] at h5; omega
        go_wp2_with fail; go_meet
        exact Lib.hid ⟨by rw [HD.out], rfl⟩
      | false =>
        go_wp2_with fail; go_meet
        exact Lib.hid ⟨by rw [HD.out], rfl⟩
    · have HD := Lib.hid (decide_eq_false h0)
      cases bo with
      | true =>
        have hl2 : ¬ (1 : Int) < (lns.length : Int) := by have h5 := HLen.out; rw [if_pos rfl] at h5; omega
        have hl3 : (0 : Int) < (lns.length : Int) := by have h5 := HLen.out; rw [if_pos rfl] at h5; omega
        go_wp2_with fail; go_meet
        exact Lib.hid ⟨by rw [HD.out], rfl⟩
      | false =>
        have hl3 : ¬ (0 : Int) < (lns.length : Int) := by have h5 := HLen.out; rw [if_neg (by decide)] at h5; omega
        go_wp2_with fail; go_meet
        exact Lib.hid ⟨by rw [HD.out], rfl⟩
  case rest =>
  obtain ⟨hu, hwc⟩ := hcut.out
  rw [hu, hwc]
  clear hcut hu hwc
  go_upto_if 36 with (fail)
  go_cut [6] (fun u6 wx => Hid (u6 = .string hd ∧ wx = w1))
  case first =>
    by_cases h0 : 0 < N
    · have hl0 : 0 < lns.length := by have h5 := HLen.out; omega
      obtain ⟨bl, ol, hAl, hcl⟩ := ho1.reads.at_ hl0
      subst hAl
      rw [Nat.add_zero] at hcl
      have hli : (0 : Int) < (lns.length : Int) := by omega
      go_wp2_with fail; go_meet
      exact Lib.hid ⟨by rw [HHD.out, if_pos h0], rfl⟩
    · go_wp2_with fail; go_meet
      exact Lib.hid ⟨by rw [HHD.out, if_neg h0], rfl⟩
  case rest =>
    obtain ⟨hu, hwc⟩ := hcut.out
    rw [hu, hwc]
    clear hcut hu hwc
    generalize hdl0 : hd.data.toList = hdl at *
    have HDL := Lib.hid hdl0
    clear hdl0
    have F0 := bR1.hot 0; have F1 := bR1.hot 1; have F2 := bR1.hot 2
    have P0 := bR1.c0; have P1 := bR1.c1; have P2 := bR1.c2
    cases hp : Lib.hasPrefix hdl gmB with
    | false =>
      have HP0 := Lib.hid hp
      have EE := Lib.hid (HHead.out (HTG.out.trans (hd_no hp)))
      clear hp
      go_wp2_with (first
        | (go_at_call 24; refine (stringsCut _ _).mono ?_; rintro e w2 ⟨rfl, hw2⟩; rw [hw2, HDL.out, HP0.out])
        | (go_at_call 25; refine (readNumberR _ _ _).mono ?_; rintro e w3 ⟨rfl, q3, rfl⟩; skip))
      have bx := (bR1.drewN q3).set3 (.slice none 0 0) (.slice none 0 0) (.slice none 0 0)
      have R0 := bx.c0; have R1 := bx.c1; have R2 := bx.c2
      exact bodyPost_ret (v := .tuple #[.agg #[.slice none 0 0, .slice none 0 0, .slice none 0 0], .int .i64 (0)]) (by simp [results, Tryz.results8, go_sem, R0, R1, R2]) rfl ⟨_, _, _, by rw [HLs.out, EE.out.1], by rw [HLs.out, EE.out.2]; exact OPar.nil _ _, (Below.trans (below_drewN hw1 q3) ((Chg.set3 _ _ _ _ _).below (below_drewN hw1 q3).size (fun x hx => by have h3 : x = w.heap.size := hx; omega))).mono hB⟩
    | true =>
      have HP0 := Lib.hid hp
      obtain ⟨r, hr, hcr⟩ := cut_pre hp
      have HCR := Lib.hid hcr
      have HTG2 : Hid (tgH l = if 1 ≤ rdNum r 256 then rdNum r 256 else 0) := Lib.hid (HTG.out.trans (by rw [hr]; exact hd_pre r))
      clear hp hr hcr
      by_cases h0 : 0 ≤ rdNum r 256
      · have HF := Lib.hid (show decide (0 ≤ rdNum r (257 - 1)) = true from decide_eq_true h0)
        have HV := Lib.hid (rd_val h0)
        obtain ⟨m, hm⟩ := Int.eq_ofNat_of_zero_le h0
        have h256 := (rdNum_le h0).1
        by_cases h1 : m = 0
        · have EE := Lib.hid (HHead.out (HTG2.out.trans (if_neg (by omega))))
          rw [hm] at HV
          subst h1
          clear h0 hm h256
          go_wp2_with (first
            | (go_at_call 24; refine (stringsCut _ _).mono ?_; rintro e w2 ⟨rfl, hw2⟩; rw [hw2, HDL.out, HP0.out, HCR.out])
            | (go_at_call 25; refine (readNumberR _ _ _).mono ?_; rintro e w3 ⟨rfl, q3, rfl⟩; rw [tx_data, HF.out, HV.out]))
          have bx := (bR1.drewN q3).set3 (.slice none 0 0) (.slice none 0 0) (.slice none 0 0)
          have R0 := bx.c0; have R1 := bx.c1; have R2 := bx.c2
          exact bodyPost_ret (v := .tuple #[.agg #[.slice none 0 0, .slice none 0 0, .slice none 0 0], .int .i64 (0)]) (by simp [results, Tryz.results8, go_sem, R0, R1, R2]) rfl ⟨_, _, _, by rw [HLs.out, EE.out.1], by rw [HLs.out, EE.out.2]; exact OPar.nil _ _, (Below.trans (below_drewN hw1 q3) ((Chg.set3 _ _ _ _ _).below (below_drewN hw1 q3).size (fun x hx => by have h3 : x = w.heap.size := hx; omega))).mono hB⟩
        · have HM := Lib.hid (HTG2.out.trans ((if_pos (show 1 ≤ rdNum r 256 by omega)).trans hm))
          rw [hm] at HV
          have hm256 : m ≤ 256 := by omega
          have hm1 : 1 ≤ m := by omega
          have hmi : ((m : Int) == 0) = false := by rw [beq_eq_false_iff_ne]; omega
          clear h0 hm h256 h1
          have a0 : ∀ q, ((w1.drewN q).alloc (.cells #[.slice none 0 0, .slice none 0 0, .slice none 0 0] 32)).cell? ⟨w1.heap.size, 0, none⟩ = some (.slice none 0 0) := fun q => (Box.new (w1.drewN q) 32 #[.slice none 0 0, .slice none 0 0, .slice none 0 0]).c0
          have h0a : ∀ q, ((w1.drewN q).alloc (.cells #[.slice none 0 0, .slice none 0 0, .slice none 0 0] 32)).frozen? ⟨w1.heap.size, 0, none⟩ = false := fun q => (Box.new (w1.drewN q) 32 #[.slice none 0 0, .slice none 0 0, .slice none 0 0]).hot 0
          have a1 : ∀ q, ((w1.drewN q).alloc (.cells #[.slice none 0 0, .slice none 0 0, .slice none 0 0] 32)).cell? ⟨w1.heap.size, 1, none⟩ = some (.slice none 0 0) := fun q => (Box.new (w1.drewN q) 32 #[.slice none 0 0, .slice none 0 0, .slice none 0 0]).c1
          have h1a : ∀ q, ((w1.drewN q).alloc (.cells #[.slice none 0 0, .slice none 0 0, .slice none 0 0] 32)).frozen? ⟨w1.heap.size, 1, none⟩ = false := fun q => (Box.new (w1.drewN q) 32 #[.slice none 0 0, .slice none 0 0, .slice none 0 0]).hot 1
          have a2 : ∀ q, ((w1.drewN q).alloc (.cells #[.slice none 0 0, .slice none 0 0, .slice none 0 0] 32)).cell? ⟨w1.heap.size, 2, none⟩ = some (.slice none 0 0) := fun q => (Box.new (w1.drewN q) 32 #[.slice none 0 0, .slice none 0 0, .slice none 0 0]).c2
          have h2a : ∀ q, ((w1.drewN q).alloc (.cells #[.slice none 0 0, .slice none 0 0, .slice none 0 0] 32)).frozen? ⟨w1.heap.size, 2, none⟩ = false := fun q => (Box.new (w1.drewN q) 32 #[.slice none 0 0, .slice none 0 0, .slice none 0 0]).hot 2
          go_wp2_with (first
            | (go_at_call 24; refine (stringsCut _ _).mono ?_; rintro e w2 ⟨rfl, hw2⟩; rw [hw2, HDL.out, HP0.out, HCR.out])
            | (go_at_call 25; refine (readNumberR _ _ _).mono ?_; rintro e w3 ⟨rfl, q3, rfl⟩; rw [tx_data, HF.out, HV.out]))
          have bA1 := Box.new (w1.drewN q3) 32 #[.slice none 0 0, .slice none 0 0, .slice none 0 0]
          have hbA : Below w1.heap.size w1 ((w1.drewN q3).alloc (.cells #[.slice none 0 0, .slice none 0 0, .slice none 0 0] 32)) := below_alloc (Nat.le_refl _) (below_drewN (Below.refl _ _) q3)
          have ho2 := ho1.below hbA
          have bR2 := bR1.below hbA bR1.lt
          have hw2 := below_then hbA hw1.size hw1
          have hLL : ∀ z, (Value.slice AL lns.length cL).ownBlock = some z → z < w1.heap.size := fun z hz => (ho1.lt z hz).2
          have HLL := Lib.hid hLL
          have chS := Chg.set3 ((w1.drewN q3).alloc (.cells #[.slice none 0 0, .slice none 0 0, .slice none 0 0] 32)) w1.heap.size (.slice none 0 0) (.slice none 0 0) (.slice none 0 0)
          replace bA1 := bA1.set3 (.slice none 0 0) (.slice none 0 0) (.slice none 0 0)
          replace bR2 := bR2.far3 (show w.heap.size ≠ w1.heap.size by omega) (.slice none 0 0) (.slice none 0 0) (.slice none 0 0)
          replace ho2 := row_chg ho2 chS (fun z hz e => by have h3 : z = w1.heap.size := e; have := hLL z hz; omega)
          replace hw2 := hw2.trans (chS.below hw2.size (fun z hz => by have h3 : z = w1.heap.size := hz; omega))
          clear chS hbA F0 F1 F2 P0 P1 P2 hmi hLL a0 a1 a2 h0a h1a h2a
          go_loopw [12] (fun u wr => ∃ (k i : Nat) (A0 : Option Addr) (c0 : Nat) (A1 : Option Addr) (c1 : Nat) (A2 : Option Addr) (c2 : Nat), k ≤ m ∧ i = k + 1 ∧ u = .int .i64 (i : Int) ∧ Hid (∀ j, j < k → tgG l m (j + 1) = true) ∧ OPar wr (w1.heap.size + 1) (.slice A0 k c0) (.slice A1 k c1) (.slice A2 k c2) (tgUp l m k) ∧ Box wr w1.heap.size 32 #[.slice A0 k c0, .slice A1 k c1, .slice A2 k c2] ∧ Box wr w.heap.size 32 #[.slice none 0 0, .slice none 0 0, .slice none 0 0] ∧ OS wr (w.heap.size + 1) (.slice AL lns.length cL) lns ∧ Below w.heap.size w wr ∧ w1.heap.size + 1 ≤ wr.heap.size) (fun u _ => m + 1 - (intOf u).toNat)
          case atStart => exact ⟨0, 1, none, 0, none, 0, none, 0, Nat.zero_le _, rfl, rfl, Lib.hid (fun j hj => absurd hj (by omega)), OPar.nil _ _, bA1, bR2, ho2, hw2, by simp⟩
          case round =>
            clear bA1 bR1 bR2 ho1 ho2 hw1 hw2
            obtain ⟨k, i, A0, c0, A1, c1, A2, c2, hk, hik, rfl, HA, ho, bA, bR, hrr, hbr, hsz⟩ := hrel
            by_cases hlt : k < m
            · have hile : (i : Int) ≤ (m : Int) := by omega
              have i0 : (0 : Int) ≤ (i : Int) := by omega
              have HIK := Lib.hid hik
              have HEI : Hid ((k : Int) + 1 = (i : Int)) := Lib.hid (by omega)
              have hbad := fun hb => HBadE.out m k HM.out hlt HA.out hb
              rw [← hik, HEI.out] at hbad
              have HBad := Lib.hid hbad
              have HU := tgUp_succ l m k
              rw [← hik] at HU
              have HUp := Lib.hid HU
              clear hik hbad HU
              have e1 : IntKind.i64.wrap ((lns.length : Int) - 1) = (lns.length : Int) - 1 := IntWalk.i64_in _ (by omega)
              have F0 := bR.hot 0; have F1 := bR.hot 1; have F2 := bR.hot 2
              have P0 := bR.c0; have P1 := bR.c1; have P2 := bR.c2
              by_cases hA : lns.length ≤ i
              · have hAi : (lns.length : Int) ≤ (i : Int) := by omega
                have EE := Lib.hid (HBad.out (tgG_no (by rw [HN.out]; have h5 := HLen.out; omega)))
                clear HA hA
                go_wp2
                have bx := (bR).set3 (.slice none 0 0) (.slice none 0 0) (.slice none 0 0)
                have R0 := bx.c0; have R1 := bx.c1; have R2 := bx.c2
                exact bodyPost_ret (v := .tuple #[.agg #[.slice none 0 0, .slice none 0 0, .slice none 0 0], .int .i64 ((i : Int))]) (by simp [results, Tryz.results8, go_sem, R0, R1, R2]) rfl ⟨_, _, _, by rw [HLs.out, EE.out.1], by rw [HLs.out, EE.out.2]; exact OPar.nil _ _, (Below.trans (hbr) ((Chg.set3 _ _ _ _ _).below (hbr).size (fun x hx => by have h3 : x = w.heap.size := hx; omega))).mono hB⟩
              have hAi : (i : Int) < (lns.length : Int) := by omega
              by_cases hl : bo = true ∧ i + 1 = lns.length
              · obtain ⟨rfl, hl2⟩ := hl
                have hli : ((i : Int) == (lns.length : Int) - 1) = true := by rw [beq_iff_eq]; omega
                have EE := Lib.hid (HBad.out (tgG_no (by rw [HN.out]; have h5 := HLen.out; rw [if_pos rfl] at h5; omega)))
                clear HA hl2
                go_wp2
                have bx := (bR).set3 (.slice none 0 0) (.slice none 0 0) (.slice none 0 0)
                have R0 := bx.c0; have R1 := bx.c1; have R2 := bx.c2
                exact bodyPost_ret (v := .tuple #[.agg #[.slice none 0 0, .slice none 0 0, .slice none 0 0], .int .i64 ((i : Int))]) (by simp [results, Tryz.results8, go_sem, R0, R1, R2]) rfl ⟨_, _, _, by rw [HLs.out, EE.out.1], by rw [HLs.out, EE.out.2]; exact OPar.nil _ _, (Below.trans (hbr) ((Chg.set3 _ _ _ _ _).below (hbr).size (fun x hx => by have h3 : x = w.heap.size := hx; omega))).mono hB⟩
              have hiN : i < N := by
                have h5 := HLen.out
                cases bo with
                | true => have h6 : i + 1 ≠ lns.length := fun e => hl ⟨rfl, e⟩; rw [if_pos rfl] at h5; omega
                | false => rw [if_neg (by decide)] at h5; omega
              have HNL : Hid (¬ (bo = true ∧ i + 1 = lns.length)) := Lib.hid hl
              obtain ⟨bl, ol, hAl, hcl⟩ := (OS.reads hrr).at_ (show i < lns.length by omega)
              subst hAl
              have HG := Lib.hid (HGL.out i (by omega))
              have hls := HLS.out i
              have hP3 := hP.keep (keeps_below hbr)
              have hM3 := hM.keep (keeps_below hbr)
              have HIN := Lib.hid hiN
              have hll := tgUp_l l m k
              generalize gt lns i = x at *
              clear hl
              have hi1 : i < lns.length := by omega
              by_cases hl2 : i + 1 = lns.length
              · obtain rfl : bo = false := by cases bo with
                  | true => exact absurd ⟨rfl, hl2⟩ HNL.out
                  | false => rfl
                have hli : ((i : Int) == (lns.length : Int) - 1) = true := by rw [beq_iff_eq]; omega
                clear hl2
                cases hok : tvOk (gx (spl 10 l) i) m with
                | false =>
                  have HOK := Lib.hid hok
                  have EE := Lib.hid (HBad.out (tgG_bad hok))
                  clear HA hok
                  go_wp2_with (go_at_call 26; refine (implTextVertex x m _ _ (Nat.le_refl _) hP3 hM3 hls).mono ?_; rintro e w3 ⟨v3, rfl, hv3, hb3⟩; rw [HG.out, HOK.out]; have bR3 := bR.below hb3 bR.lt; have Z0 := bR3.c0; have Z1 := bR3.c1; have Z2 := bR3.c2; have Y0 := bR3.hot 0; have Y1 := bR3.hot 1; have Y2 := bR3.hot 2)
                  have hbw3 : Below w.heap.size w w3 := below_then hb3 hbr.size hbr
                  have bx := (bR3).set3 (.slice none 0 0) (.slice none 0 0) (.slice none 0 0)
                  have R0 := bx.c0; have R1 := bx.c1; have R2 := bx.c2
                  exact bodyPost_ret (v := .tuple #[.agg #[.slice none 0 0, .slice none 0 0, .slice none 0 0], .int .i64 ((i : Int))]) (by simp [results, Tryz.results8, go_sem, R0, R1, R2]) rfl ⟨_, _, _, by rw [HLs.out, EE.out.1], by rw [HLs.out, EE.out.2]; exact OPar.nil _ _, (Below.trans (hbw3) ((Chg.set3 _ _ _ _ _).below (hbw3).size (fun x hx => by have h3 : x = w.heap.size := hx; omega))).mono hB⟩
                | true =>
                  have HOK := Lib.hid hok
                  have HGood : Hid (tgG l m i = true) := Lib.hid (tgG_yes (by rw [HN.out]; exact HIN.out) hok)
                  clear hok
                  have hl0 : (tgUp l m k).1.length ≤ 4194304 := by rw [hll.1]; omega
                  have hl1 : (tgUp l m k).2.1.length ≤ 4194304 := by rw [hll.2.1]; omega
                  have hl2 : (tgUp l m k).2.2.length ≤ 4194304 := by rw [hll.2.2]; omega
                  have HLL3 := Lib.hid hll
                  clear hll F0 F1 F2 P0 P1 P2
                  go_wp2_with (first
                    | (go_at_call 26
                       refine (implTextVertex x m _ _ (Nat.le_refl _) hP3 hM3 hls).mono ?_
                       rintro e w3 ⟨v3, rfl, hv3, hb3⟩
                       rw [HG.out, HOK.out]
                       rw [HG.out] at hv3
                       obtain ⟨Av, cv, rfl⟩ := hv3.form
                       have X3 := ParX.of ho hsz (chgF hb3) (fun b hb => hb.elim) hv3
                       have bR3 := bR.below hb3 bR.lt
                       have bA3 := bA.below hb3 bA.lt
                       have hrr3 := hrr.below hb3
                       have hsz3 : w1.heap.size + 1 ≤ w3.heap.size := Nat.le_trans hsz hb3.size
                       have hbw3 : Below w.heap.size w w3 := below_then hb3 hbr.size hbr
                       have Z0 := bA3.c0; have Z1 := bA3.c1; have Z2 := bA3.c2; have Y0 := bA3.hot 0; have Y1 := bA3.hot 1; have Y2 := bA3.hot 2)
                    | (at_builtin
                       refine wpList_pushI rfl (.tmp 100) (.tmp 102) rfl w3 (w1.heap.size + 1) (.slice A2 k c2) (tgUp l m k).2.2 rfl X3.row2 (tvP (gx (spl 10 l) i) m) rfl hl2 hsz3 ?_
                       intro v6 w6 ho6 hb6 hc6 hat6
                       obtain ⟨A6, c6, hv6⟩ := ho6.form
                       rw [List.length_append, HLL3.out.2.2, List.length_singleton] at hv6
                       subst hv6
                       have X6 := X3.put2 hc6 ho6 hat6
                       have bA6 : Box w6 w1.heap.size 32 #[.slice A0 k c0, .slice A1 k c1, .slice A2 k c2] := (hc6.block _ bA3.lt (fun e => by have := (X3.row2.lt _ e).1; omega)).trans bA3
                       have bR6 : Box w6 w.heap.size 32 #[.slice none 0 0, .slice none 0 0, .slice none 0 0] := (hc6.block _ bR3.lt (fun e => by have := (X3.row2.lt _ e).1; omega)).trans bR3
                       have hrr6 := row_chg hrr3 hc6 (fun x hx e => own_ne hrr3 X3.row2 (by decide) x hx e)
                       have hsz6 : w1.heap.size + 1 ≤ w6.heap.size := Nat.le_trans hsz3 hb6.size
                       have D0 := bA6.c0; have D1 := bA6.c1; have D2 := bA6.c2; have K0 := bA6.hot 0; have K1 := bA6.hot 1; have K2 := bA6.hot 2
                       have ch7 := Chg.set (w := w6) ⟨w1.heap.size, 2, none⟩ (.slice A6 (k + 1) c6)
                       have X7 := X6.chg ch7 (fun b hb => by have h3 : b = w1.heap.size := hb; omega)
                       have bA7 : Box (w6.setCell ⟨w1.heap.size, 2, none⟩ (.slice A6 (k + 1) c6)) w1.heap.size 32 #[.slice A0 k c0, .slice A1 k c1, .slice A6 (k + 1) c6] := bA6.set_ 2 (.slice A6 (k + 1) c6)
                       have bR7 := bR6.far (p := ⟨w1.heap.size, 2, none⟩) (show w.heap.size ≠ w1.heap.size by omega) (.slice A6 (k + 1) c6)
                       have hrr7 := row_chg hrr6 ch7 (fun z hz e => by have h3 : z = w1.heap.size := e; have := HLL.out z hz; omega)
                       have hbw7 : Below w.heap.size w (w6.setCell ⟨w1.heap.size, 2, none⟩ (.slice A6 (k + 1) c6)) := Below.setCell (hbw3.trans (hb6.mono (by omega))) (by show w.heap.size ≤ w1.heap.size; omega) _)
                    | (at_builtin
                       refine wpList_pushHT rfl (.tmp 107) (.tmp 109) rfl (w6.setCell ⟨w1.heap.size, 2, none⟩ (.slice A6 (k + 1) c6)) w6.heap.size (by simp) (w1.heap.size + 1) (.slice A0 k c0) (tgUp l m k).1 rfl X7.row0 (tvO (gx (spl 10 l) i) m) rfl hl0 hsz6 ?_
                       intro v8 w8 ho8 hb8 hc8 hat8
                       obtain ⟨A8, c8, hv8⟩ := ho8.form
                       rw [List.length_append, HLL3.out.1, List.length_singleton] at hv8
                       subst hv8
                       have X8 := X7.put0 hc8 ho8 hat8
                       have bA8 : Box w8 w1.heap.size 32 #[.slice A0 k c0, .slice A1 k c1, .slice A6 (k + 1) c6] := (hc8.block _ bA7.lt (fun e => by have := (X7.row0.lt _ e).1; omega)).trans bA7
                       have bR8 : Box w8 w.heap.size 32 #[.slice none 0 0, .slice none 0 0, .slice none 0 0] := (hc8.block _ bR7.lt (fun e => by have := (X7.row0.lt _ e).1; omega)).trans bR7
                       have hrr8 := row_chg hrr7 hc8 (fun x hx e => own_ne hrr7 X7.row0 (by decide) x hx e)
                       have hsz8 : w1.heap.size + 1 ≤ w8.heap.size := Nat.le_trans hsz6 (Nat.le_trans (by simp) hb8.size)
                       have N0 := bA8.c0; have N1 := bA8.c1; have N2 := bA8.c2; have M0 := bA8.hot 0; have M1 := bA8.hot 1; have M2 := bA8.hot 2
                       have ch9 := Chg.set (w := w8) ⟨w1.heap.size, 0, none⟩ (.slice A8 (k + 1) c8)
                       have X9 := X8.chg ch9 (fun b hb => by have h3 : b = w1.heap.size := hb; omega)
                       have bA9 : Box (w8.setCell ⟨w1.heap.size, 0, none⟩ (.slice A8 (k + 1) c8)) w1.heap.size 32 #[.slice A8 (k + 1) c8, .slice A1 k c1, .slice A6 (k + 1) c6] := bA8.set_ 0 (.slice A8 (k + 1) c8)
                       have bR9 := bR8.far (p := ⟨w1.heap.size, 0, none⟩) (show w.heap.size ≠ w1.heap.size by omega) (.slice A8 (k + 1) c8)
                       have hrr9 := row_chg hrr8 ch9 (fun z hz e => by have h3 : z = w1.heap.size := e; have := HLL.out z hz; omega)
                       have hbw9 : Below w.heap.size w (w8.setCell ⟨w1.heap.size, 0, none⟩ (.slice A8 (k + 1) c8)) := Below.setCell (hbw7.trans (hb8.mono (by omega))) (by show w.heap.size ≤ w1.heap.size; omega) _)
                    | (at_builtin
                       refine wpList_pushXH rfl (.tmp 115) (.tmp 117) rfl (w8.setCell ⟨w1.heap.size, 0, none⟩ (.slice A8 (k + 1) c8)) w8.heap.size (by simp) (w1.heap.size + 1) (.slice A8 (k + 1) c8) (.slice A1 k c1) (.slice A6 (k + 1) c6) (.slice Av (tvX (gx (spl 10 l) i) m).length cv) _ (tvX (gx (spl 10 l) i) m) rfl rfl hsz8 X9 hl1 ?_
                       intro v10 w10 ho10 hb10 hc10 hat10
                       obtain ⟨_, _, A10, c10, _, _, _, hv10, _⟩ := ho10.form
                       simp only [List.length_append, List.length_singleton, HLL3.out.2.1] at hv10
                       subst hv10
                       have hown1 := X9.old1
                       have bA10 : Box w10 w1.heap.size 32 #[.slice A8 (k + 1) c8, .slice A1 k c1, .slice A6 (k + 1) c6] := (hc10.block _ bA9.lt (fun e => by have := hown1 _ e; omega)).trans bA9
                       have bR10 : Box w10 w.heap.size 32 #[.slice none 0 0, .slice none 0 0, .slice none 0 0] := (hc10.block _ bR9.lt (fun e => by have := hown1 _ e; omega)).trans bR9
                       have hrr10 := row_chg hrr9 hc10 (fun x hx e => par_own1 X9 hrr9 x hx e)
                       have hsz10 : w1.heap.size + 1 ≤ w10.heap.size := Nat.le_trans hsz8 (Nat.le_trans (by simp) hb10.size)
                       have U0 := bA10.c0; have U1 := bA10.c1; have U2 := bA10.c2; have V0 := bA10.hot 0; have V1 := bA10.hot 1; have V2 := bA10.hot 2))
                  have hoE := ho10.chg (Chg.set (w := w10) ⟨w1.heap.size, 1, none⟩ (.slice A10 (k + 1) c10)) (fun b hb => by have h3 : b = w1.heap.size := hb; omega)
                  have hUk : tgUp l m (k + 1) = ((tgUp l m k).1 ++ [tvO (gx (spl 10 l) i) m], (tgUp l m k).2.1 ++ [tvX (gx (spl 10 l) i) m], (tgUp l m k).2.2 ++ [tvP (gx (spl 10 l) i) m]) := by rw [← HIK.out]; exact HUp.out
                  rw [← hUk] at hoE
                  have hAk := Lib.hid (all_succ (p := fun j => tgG l m (j + 1) = true) HA.out (by rw [← HIK.out]; exact HGood.out))
                  have bAE := bA10.set_ 1 (.slice A10 (k + 1) c10)
                  have bRE := bR10.far (p := ⟨w1.heap.size, 1, none⟩) (show w.heap.size ≠ w1.heap.size by omega) (.slice A10 (k + 1) c10)
                  have hrrE := row_chg hrr10 (Chg.set (w := w10) ⟨w1.heap.size, 1, none⟩ (.slice A10 (k + 1) c10)) (fun z hz e => by have h3 : z = w1.heap.size := e; have := HLL.out z hz; omega)
                  have hbwE : Below w.heap.size w (w10.setCell ⟨w1.heap.size, 1, none⟩ (.slice A10 (k + 1) c10)) := Below.setCell (hbw9.trans (hb10.mono (by omega))) (by show w.heap.size ≤ w1.heap.size; omega) _
                  have hszE : w1.heap.size + 1 ≤ (w10.setCell ⟨w1.heap.size, 1, none⟩ (.slice A10 (k + 1) c10)).heap.size := by simpa using hsz10
                  have hk1 : k + 1 ≤ m := hlt
                  have hi1' : i + 1 = (k + 1) + 1 := by rw [HIK.out]
                  go_roundw
                  case rel =>
                    first
                      | exact ⟨k + 1, i + 1, A8, c8, A10, c10, A6, c6, hk1, hi1', by go_num, hAk, hoE, bAE, bRE, hrrE, hbwE, by first | exact hszE | exact hsz10⟩
                      | exact ⟨k + 1, i + 1, A8, c8, A10, c10, A6, c6, hk1, hi1', by go_num, hAk, hoE, bAE, bRE, hrrE, hbwE⟩
                      | exact ⟨k + 1, hk1, by have h7 := HEI.out; omega, hAk, A8, c8, A10, c10, A6, c6, hoE, bAE, bRE, hrrE, hbwE, by first | exact hszE | exact hsz10⟩
                      | exact ⟨k + 1, hk1, by have h7 := HEI.out; omega, hAk, A8, c8, A10, c10, A6, c6, hoE, bAE, bRE, hrrE, hbwE⟩
                  case measure => have := HIK.out; simp [intOf]; omega
              · have hli : ((i : Int) == (lns.length : Int) - 1) = false := by rw [beq_eq_false_iff_ne]; omega
                clear hl2
                cases hok : tvOk (gx (spl 10 l) i) m with
                | false =>
                  have HOK := Lib.hid hok
                  have EE := Lib.hid (HBad.out (tgG_bad hok))
                  clear HA hok
                  go_wp2_with (go_at_call 26; refine (implTextVertex x m _ _ (Nat.le_refl _) hP3 hM3 hls).mono ?_; rintro e w3 ⟨v3, rfl, hv3, hb3⟩; rw [HG.out, HOK.out]; have bR3 := bR.below hb3 bR.lt; have Z0 := bR3.c0; have Z1 := bR3.c1; have Z2 := bR3.c2; have Y0 := bR3.hot 0; have Y1 := bR3.hot 1; have Y2 := bR3.hot 2)
                  have hbw3 : Below w.heap.size w w3 := below_then hb3 hbr.size hbr
                  have bx := (bR3).set3 (.slice none 0 0) (.slice none 0 0) (.slice none 0 0)
                  have R0 := bx.c0; have R1 := bx.c1; have R2 := bx.c2
                  exact bodyPost_ret (v := .tuple #[.agg #[.slice none 0 0, .slice none 0 0, .slice none 0 0], .int .i64 ((i : Int))]) (by simp [results, Tryz.results8, go_sem, R0, R1, R2]) rfl ⟨_, _, _, by rw [HLs.out, EE.out.1], by rw [HLs.out, EE.out.2]; exact OPar.nil _ _, (Below.trans (hbw3) ((Chg.set3 _ _ _ _ _).below (hbw3).size (fun x hx => by have h3 : x = w.heap.size := hx; omega))).mono hB⟩
                | true =>
                  have HOK := Lib.hid hok
                  have HGood : Hid (tgG l m i = true) := Lib.hid (tgG_yes (by rw [HN.out]; exact HIN.out) hok)
                  clear hok
                  have hl0 : (tgUp l m k).1.length ≤ 4194304 := by rw [hll.1]; omega
                  have hl1 : (tgUp l m k).2.1.length ≤ 4194304 := by rw [hll.2.1]; omega
                  have hl2 : (tgUp l m k).2.2.length ≤ 4194304 := by rw [hll.2.2]; omega
                  have HLL3 := Lib.hid hll
                  clear hll F0 F1 F2 P0 P1 P2
                  go_wp2_with (first
                    | (go_at_call 26
                       refine (implTextVertex x m _ _ (Nat.le_refl _) hP3 hM3 hls).mono ?_
                       rintro e w3 ⟨v3, rfl, hv3, hb3⟩
                       rw [HG.out, HOK.out]
                       rw [HG.out] at hv3
                       obtain ⟨Av, cv, rfl⟩ := hv3.form
                       have X3 := ParX.of ho hsz (chgF hb3) (fun b hb => hb.elim) hv3
                       have bR3 := bR.below hb3 bR.lt
                       have bA3 := bA.below hb3 bA.lt
                       have hrr3 := hrr.below hb3
                       have hsz3 : w1.heap.size + 1 ≤ w3.heap.size := Nat.le_trans hsz hb3.size
                       have hbw3 : Below w.heap.size w w3 := below_then hb3 hbr.size hbr
                       have Z0 := bA3.c0; have Z1 := bA3.c1; have Z2 := bA3.c2; have Y0 := bA3.hot 0; have Y1 := bA3.hot 1; have Y2 := bA3.hot 2)
                    | (at_builtin
                       refine wpList_pushI rfl (.tmp 100) (.tmp 102) rfl w3 (w1.heap.size + 1) (.slice A2 k c2) (tgUp l m k).2.2 rfl X3.row2 (tvP (gx (spl 10 l) i) m) rfl hl2 hsz3 ?_
                       intro v6 w6 ho6 hb6 hc6 hat6
                       obtain ⟨A6, c6, hv6⟩ := ho6.form
                       rw [List.length_append, HLL3.out.2.2, List.length_singleton] at hv6
                       subst hv6
                       have X6 := X3.put2 hc6 ho6 hat6
                       have bA6 : Box w6 w1.heap.size 32 #[.slice A0 k c0, .slice A1 k c1, .slice A2 k c2] := (hc6.block _ bA3.lt (fun e => by have := (X3.row2.lt _ e).1; omega)).trans bA3
                       have bR6 : Box w6 w.heap.size 32 #[.slice none 0 0, .slice none 0 0, .slice none 0 0] := (hc6.block _ bR3.lt (fun e => by have := (X3.row2.lt _ e).1; omega)).trans bR3
                       have hrr6 := row_chg hrr3 hc6 (fun x hx e => own_ne hrr3 X3.row2 (by decide) x hx e)
                       have hsz6 : w1.heap.size + 1 ≤ w6.heap.size := Nat.le_trans hsz3 hb6.size
                       have D0 := bA6.c0; have D1 := bA6.c1; have D2 := bA6.c2; have K0 := bA6.hot 0; have K1 := bA6.hot 1; have K2 := bA6.hot 2
                       have ch7 := Chg.set (w := w6) ⟨w1.heap.size, 2, none⟩ (.slice A6 (k + 1) c6)
                       have X7 := X6.chg ch7 (fun b hb => by have h3 : b = w1.heap.size := hb; omega)
                       have bA7 : Box (w6.setCell ⟨w1.heap.size, 2, none⟩ (.slice A6 (k + 1) c6)) w1.heap.size 32 #[.slice A0 k c0, .slice A1 k c1, .slice A6 (k + 1) c6] := bA6.set_ 2 (.slice A6 (k + 1) c6)
                       have bR7 := bR6.far (p := ⟨w1.heap.size, 2, none⟩) (show w.heap.size ≠ w1.heap.size by omega) (.slice A6 (k + 1) c6)
                       have hrr7 := row_chg hrr6 ch7 (fun z hz e => by have h3 : z = w1.heap.size := e; have := HLL.out z hz; omega)
                       have hbw7 : Below w.heap.size w (w6.setCell ⟨w1.heap.size, 2, none⟩ (.slice A6 (k + 1) c6)) := Below.setCell (hbw3.trans (hb6.mono (by omega))) (by show w.heap.size ≤ w1.heap.size; omega) _)
                    | (at_builtin
                       refine wpList_pushHT rfl (.tmp 107) (.tmp 109) rfl (w6.setCell ⟨w1.heap.size, 2, none⟩ (.slice A6 (k + 1) c6)) w6.heap.size (by simp) (w1.heap.size + 1) (.slice A0 k c0) (tgUp l m k).1 rfl X7.row0 (tvO (gx (spl 10 l) i) m) rfl hl0 hsz6 ?_
                       intro v8 w8 ho8 hb8 hc8 hat8
                       obtain ⟨A8, c8, hv8⟩ := ho8.form
                       rw [List.length_append, HLL3.out.1, List.length_singleton] at hv8
                       subst hv8
                       have X8 := X7.put0 hc8 ho8 hat8
                       have bA8 : Box w8 w1.heap.size 32 #[.slice A0 k c0, .slice A1 k c1, .slice A6 (k + 1) c6] := (hc8.block _ bA7.lt (fun e => by have := (X7.row0.lt _ e).1; omega)).trans bA7
                       have bR8 : Box w8 w.heap.size 32 #[.slice none 0 0, .slice none 0 0, .slice none 0 0] := (hc8.block _ bR7.lt (fun e => by have := (X7.row0.lt _ e).1; omega)).trans bR7
                       have hrr8 := row_chg hrr7 hc8 (fun x hx e => own_ne hrr7 X7.row0 (by decide) x hx e)
                       have hsz8 : w1.heap.size + 1 ≤ w8.heap.size := Nat.le_trans hsz6 (Nat.le_trans (by simp) hb8.size)
                       have N0 := bA8.c0; have N1 := bA8.c1; have N2 := bA8.c2; have M0 := bA8.hot 0; have M1 := bA8.hot 1; have M2 := bA8.hot 2
                       have ch9 := Chg.set (w := w8) ⟨w1.heap.size, 0, none⟩ (.slice A8 (k + 1) c8)
                       have X9 := X8.chg ch9 (fun b hb => by have h3 : b = w1.heap.size := hb; omega)
                       have bA9 : Box (w8.setCell ⟨w1.heap.size, 0, none⟩ (.slice A8 (k + 1) c8)) w1.heap.size 32 #[.slice A8 (k + 1) c8, .slice A1 k c1, .slice A6 (k + 1) c6] := bA8.set_ 0 (.slice A8 (k + 1) c8)
                       have bR9 := bR8.far (p := ⟨w1.heap.size, 0, none⟩) (show w.heap.size ≠ w1.heap.size by omega) (.slice A8 (k + 1) c8)
                       have hrr9 := row_chg hrr8 ch9 (fun z hz e => by have h3 : z = w1.heap.size := e; have := HLL.out z hz; omega)
                       have hbw9 : Below w.heap.size w (w8.setCell ⟨w1.heap.size, 0, none⟩ (.slice A8 (k + 1) c8)) := Below.setCell (hbw7.trans (hb8.mono (by omega))) (by show w.heap.size ≤ w1.heap.size; omega) _)
                    | (at_builtin
                       refine wpList_pushXH rfl (.tmp 115) (.tmp 117) rfl (w8.setCell ⟨w1.heap.size, 0, none⟩ (.slice A8 (k + 1) c8)) w8.heap.size (by simp) (w1.heap.size + 1) (.slice A8 (k + 1) c8) (.slice A1 k c1) (.slice A6 (k + 1) c6) (.slice Av (tvX (gx (spl 10 l) i) m).length cv) _ (tvX (gx (spl 10 l) i) m) rfl rfl hsz8 X9 hl1 ?_
                       intro v10 w10 ho10 hb10 hc10 hat10
                       obtain ⟨_, _, A10, c10, _, _, _, hv10, _⟩ := ho10.form
                       simp only [List.length_append, List.length_singleton, HLL3.out.2.1] at hv10
                       subst hv10
                       have hown1 := X9.old1
                       have bA10 : Box w10 w1.heap.size 32 #[.slice A8 (k + 1) c8, .slice A1 k c1, .slice A6 (k + 1) c6] := (hc10.block _ bA9.lt (fun e => by have := hown1 _ e; omega)).trans bA9
                       have bR10 : Box w10 w.heap.size 32 #[.slice none 0 0, .slice none 0 0, .slice none 0 0] := (hc10.block _ bR9.lt (fun e => by have := hown1 _ e; omega)).trans bR9
                       have hrr10 := row_chg hrr9 hc10 (fun x hx e => par_own1 X9 hrr9 x hx e)
                       have hsz10 : w1.heap.size + 1 ≤ w10.heap.size := Nat.le_trans hsz8 (Nat.le_trans (by simp) hb10.size)
                       have U0 := bA10.c0; have U1 := bA10.c1; have U2 := bA10.c2; have V0 := bA10.hot 0; have V1 := bA10.hot 1; have V2 := bA10.hot 2))
                  have hoE := ho10.chg (Chg.set (w := w10) ⟨w1.heap.size, 1, none⟩ (.slice A10 (k + 1) c10)) (fun b hb => by have h3 : b = w1.heap.size := hb; omega)
                  have hUk : tgUp l m (k + 1) = ((tgUp l m k).1 ++ [tvO (gx (spl 10 l) i) m], (tgUp l m k).2.1 ++ [tvX (gx (spl 10 l) i) m], (tgUp l m k).2.2 ++ [tvP (gx (spl 10 l) i) m]) := by rw [← HIK.out]; exact HUp.out
                  rw [← hUk] at hoE
                  have hAk := Lib.hid (all_succ (p := fun j => tgG l m (j + 1) = true) HA.out (by rw [← HIK.out]; exact HGood.out))
                  have bAE := bA10.set_ 1 (.slice A10 (k + 1) c10)
                  have bRE := bR10.far (p := ⟨w1.heap.size, 1, none⟩) (show w.heap.size ≠ w1.heap.size by omega) (.slice A10 (k + 1) c10)
                  have hrrE := row_chg hrr10 (Chg.set (w := w10) ⟨w1.heap.size, 1, none⟩ (.slice A10 (k + 1) c10)) (fun z hz e => by have h3 : z = w1.heap.size := e; have := HLL.out z hz; omega)
                  have hbwE : Below w.heap.size w (w10.setCell ⟨w1.heap.size, 1, none⟩ (.slice A10 (k + 1) c10)) := Below.setCell (hbw9.trans (hb10.mono (by omega))) (by show w.heap.size ≤ w1.heap.size; omega) _
                  have hszE : w1.heap.size + 1 ≤ (w10.setCell ⟨w1.heap.size, 1, none⟩ (.slice A10 (k + 1) c10)).heap.size := by simpa using hsz10
                  have hk1 : k + 1 ≤ m := hlt
                  have hi1' : i + 1 = (k + 1) + 1 := by rw [HIK.out]
                  go_roundw
                  case rel =>
                    first
                      | exact ⟨k + 1, i + 1, A8, c8, A10, c10, A6, c6, hk1, hi1', by go_num, hAk, hoE, bAE, bRE, hrrE, hbwE, by first | exact hszE | exact hsz10⟩
                      | exact ⟨k + 1, i + 1, A8, c8, A10, c10, A6, c6, hk1, hi1', by go_num, hAk, hoE, bAE, bRE, hrrE, hbwE⟩
                      | exact ⟨k + 1, hk1, by have h7 := HEI.out; omega, hAk, A8, c8, A10, c10, A6, c6, hoE, bAE, bRE, hrrE, hbwE, by first | exact hszE | exact hsz10⟩
                      | exact ⟨k + 1, hk1, by have h7 := HEI.out; omega, hAk, A8, c8, A10, c10, A6, c6, hoE, bAE, bRE, hrrE, hbwE⟩
                  case measure => have := HIK.out; simp [intOf]; omega
            · have hkm : k = m := by omega
              subst hkm
              have hnlt : ¬ (i : Int) ≤ (k : Int) := by omega
              have hkN : k < N := by have h6 := tgG_lt (HA.out (k - 1) (by omega)); rw [HN.out, show k - 1 + 1 = k by omega] at h6; exact h6
              have e1 : IntKind.i64.wrap ((k : Int) + 1) = (k : Int) + 1 := IntWalk.i64_in _ (by omega)
              clear hik
              have F0 := bR.hot 0; have F1 := bR.hot 1; have F2 := bR.hot 2
              have P0 := bR.c0; have P1 := bR.c1; have P2 := bR.c2
              by_cases hlen : k + 1 < lns.length
              · have hli : (k : Int) + 1 < (lns.length : Int) := by omega
                have EE := Lib.hid (HMore.out k HM.out (by omega) HA.out (by
                  rw [HN.out]
                  have h5 := HLen.out
                  cases bo with
                  | true => exact .inr HBO.out
                  | false => rw [if_neg (by decide)] at h5; exact .inl (by omega)))
                clear HA hlen
                go_wp2
                have bx := (bR).set3 (.slice none 0 0) (.slice none 0 0) (.slice none 0 0)
                have R0 := bx.c0; have R1 := bx.c1; have R2 := bx.c2
                exact bodyPost_ret (v := .tuple #[.agg #[.slice none 0 0, .slice none 0 0, .slice none 0 0], .int .i64 ((k : Int) + 1)]) (by simp [results, Tryz.results8, go_sem, R0, R1, R2]) rfl ⟨_, _, _, by rw [HLs.out, EE.out.1], by rw [HLs.out, EE.out.2]; exact OPar.nil _ _, (Below.trans (hbr) ((Chg.set3 _ _ _ _ _).below (hbr).size (fun x hx => by have h3 : x = w.heap.size := hx; omega))).mono hB⟩
              · have hli : ¬ (k : Int) + 1 < (lns.length : Int) := by omega
                have hbo2 : bo = false := by
                  have h5 := HLen.out
                  cases bo with
                  | true => rw [if_pos rfl] at h5; omega
                  | false => rfl
                have EE := Lib.hid (HAll.out k HM.out (by omega) HA.out (by rw [HN.out]; have h5 := HLen.out; omega) (by rw [HBO.out]; exact hbo2))
                have C0 := bA.c0; have C1 := bA.c1; have C2 := bA.c2
                clear HA hlen hbo2
                go_wp2
                have bx := bR.set3 (.slice A0 k c0) (.slice A1 k c1) (.slice A2 k c2)
                have R0 := bx.c0; have R1 := bx.c1; have R2 := bx.c2
                have chS := Chg.set3 wr w.heap.size (.slice A0 k c0) (.slice A1 k c1) (.slice A2 k c2)
                refine bodyPost_ret (v := .tuple #[.agg #[.slice A0 k c0, .slice A1 k c1, .slice A2 k c2], .int .i64 (-1)]) (by simp [results, Tryz.results8, go_sem, R0, R1, R2]) rfl ⟨_, _, _, by rw [HLs.out, EE.out.1], ?_, (hbr.trans (chS.below hbr.size (fun x hx => by have h3 : x = w.heap.size := hx; omega))).mono hB⟩
                rw [HLs.out, EE.out.2]
                exact (ho.chg chS (fun b hb => by have h3 : b = w.heap.size := hb; omega)).more (by omega)
      · have HF := Lib.hid (show decide (0 ≤ rdNum r (257 - 1)) = false from decide_eq_false h0)
        have EE := Lib.hid (HHead.out (HTG2.out.trans (if_neg (by omega))))
        clear h0
        go_wp2_with (first
          | (go_at_call 24; refine (stringsCut _ _).mono ?_; rintro e w2 ⟨rfl, hw2⟩; rw [hw2, HDL.out, HP0.out, HCR.out])
          | (go_at_call 25; refine (readNumberR _ _ _).mono ?_; rintro e w3 ⟨rfl, q3, rfl⟩; rw [tx_data, HF.out]))
        have bx := (bR1.drewN q3).set3 (.slice none 0 0) (.slice none 0 0) (.slice none 0 0)
        have R0 := bx.c0; have R1 := bx.c1; have R2 := bx.c2
        exact bodyPost_ret (v := .tuple #[.agg #[.slice none 0 0, .slice none 0 0, .slice none 0 0], .int .i64 (0)]) (by simp [results, Tryz.results8, go_sem, R0, R1, R2]) rfl ⟨_, _, _, by rw [HLs.out, EE.out.1], by rw [HLs.out, EE.out.2]; exact OPar.nil _ _, (Below.trans (below_drewN hw1 q3) ((Chg.set3 _ _ _ _ _).below (below_drewN hw1 q3).size (fun x hx => by have h3 : x = w.heap.size := hx; omega))).mono hB⟩
end Go.Proofs.YtkhkdnmpbfmmeaaGreatDoor
namespace Go.Proofs.YtkhkdnmpbfmmeaaGreatDoor
open Go.RowKit
end Go.Proofs.YtkhkdnmpbfmmeaaGreatDoor
