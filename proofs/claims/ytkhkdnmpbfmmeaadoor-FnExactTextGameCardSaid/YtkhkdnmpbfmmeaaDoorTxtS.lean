/- Numerals by the library; rows of texts. Contracts: impl.decimal, impl.entryText, spec.l13Mark. -/
import Derived.Test.YtkhkdnmpbfmmeaaDoorTxtW
import Derived.Test.YtkhkdnmpbfmmeaaDoorPush
namespace Go.Proofs.YtkhkdnmpbfmmeaaDoor
open Go.RowKit

/-- the table of the powers of ten stands where start-up laid it -/
def Tab (w : World) : Prop := Lib.TabIs Tryd.prog w "internal/strconv.uint64pow10" .u64 Lib.pow10Tab
theorem Tab.below {w w' : World} (h : Tab w) (hb : Below w.heap.size w w') : Tab w' := (Lib.tabBelow_of_tabIs h) w' hb
theorem Tab.drewN {w : World} (h : Tab w) (q : Nat) : Tab (w.drewN q) := h.below (below_drewN (Below.refl _ _) q)

theorem formatInt (u : Nat) (w : World) (hu : u < 1000000000) (ht : Tab w) :
    Calls Tryd.prog 97 #[.int .i64 (u : Int), .int .i64 10] w fun e w' => e = .returned (.string (tx (Lib.decDigits u))) ∧ Below w.heap.size w w' := by
  have hc := Any.strconv_FormatInt_10 Tryd.lFormat (u : Int) (by omega) (by omega) w ht
  change Calls Tryd.prog 97 _ _ _ at hc
  refine hc.mono ?_
  rintro e w' ⟨he, k, os, rfl⟩
  refine ⟨by rw [he, itoa_nat]; rfl, Lib.below_grow _ _ (Nat.le_refl _) k os⟩

theorem decimal (u : Nat) (w : World) (hu : u < 1000000000) (B : Nat) (hB : B ≤ w.heap.size) (ht : Tab w) :
    Calls Tryd.prog 78 #[.int .i64 (u : Int)] w fun e w' => e = .returned (.string (tx (Lib.decDigits u))) ∧ Below B w w' := by
  go_enter Tryd.func78, Tryd.ntmps78
  go_wp2_with (go_at_call 97; refine (formatInt _ _ hu ht).mono ?_; rintro e w' ⟨rfl, hb⟩)
  go_ret
  exact ⟨rfl, hb.mono hB⟩

/-- the mark of an entry of a plan -/
def mkT (u : Int) : List UInt8 := if u = -1 then [45] else Lib.decDigits u.toNat
theorem entryText (u : Int) (w : World) (h0 : -1 ≤ u) (h1 : u < 1000000000) (B : Nat) (hB : B ≤ w.heap.size) (ht : Tab w) :
    Calls Tryd.prog 52 #[.int .i64 u] w fun e w' => e = .returned (.string (tx (mkT u))) ∧ Below B w w' := by
  by_cases h : u = -1
  · have E := Lib.hid (show mkT u = [45] from if_pos h)
    have h' : (u == -1) = true := by simp [h]
    clear h
    go_enter Tryd.func52, Tryd.ntmps52
    go_wp2
    go_ret
    exact ⟨by rw [E.out]; rfl, Below.refl _ _⟩
  · have E := Lib.hid (show mkT u = Lib.decDigits u.toNat from if_neg h)
    have h' : (u == -1) = false := by simp [h]
    obtain ⟨k, rfl⟩ := Int.eq_ofNat_of_zero_le (show 0 ≤ u by omega)
    have HK := Lib.hid (show k < 1000000000 by omega)
    clear h h1 h0
    go_enter Tryd.func52, Tryd.ntmps52
    go_wp2_with (go_at_call 78; refine (decimal _ _ HK.out _ hB ht).mono ?_; rintro e w' ⟨rfl, hb⟩)
    go_ret
    exact ⟨by rw [E.out]; rfl, hb⟩
set_option maxRecDepth 100000 in
theorem l13Mark (u : Int) (w : World) (h0 : -1 ≤ u) (h1 : u < 1000000000) (B : Nat) (hB : B ≤ w.heap.size) :
    Calls Tryd.prog 50 #[.int .i64 u] w fun e w' => e = .returned (.string (tx (mkT u))) ∧ Below B w w' := by
  by_cases h : u = -1
  · have E := Lib.hid (show mkT u = [45] from if_pos h)
    have h' : u < 0 := by omega
    clear h
    go_enter Tryd.func50, Tryd.ntmps50
    go_wp2
    go_ret
    exact ⟨by rw [E.out]; rfl, Below.refl _ _⟩
  · have E := Lib.hid (show mkT u = Lib.decDigits u.toNat from if_neg h)
    have h' : 0 ≤ u := by omega
    obtain ⟨k, rfl⟩ := Int.eq_ofNat_of_zero_le h'
    have HK := Lib.hid (show k < 1000000000 by omega)
    clear h h1 h0
    go_enter Tryd.func50, Tryd.ntmps50
    go_wp2_with (go_at_call 77; refine (l1Int _ _ HK.out _ hB).mono ?_; rintro e w' ⟨rfl, hb⟩)
    go_ret
    exact ⟨by rw [E.out]; rfl, hb⟩

/-! ### rows of texts -/
def gt (xs : List ByteArray) (i : Nat) : ByteArray := xs.getD i ByteArray.empty
theorem gt_get {xs : List ByteArray} {i : Nat} (h : i < xs.length) : gt xs i = xs[i] := by simp [gt, h]
theorem gt_some {xs : List ByteArray} {i : Nat} (h : i < xs.length) : xs[i]? = some (gt xs i) := by simp [gt, h]
theorem gt_take {xs : List ByteArray} {n i : Nat} (h : i < n) : gt (xs.take n) i = gt xs i := by simp [gt, h]
/-- a slice of texts that reads as this list -/
def RS (w : World) (A : Option Addr) (n c : Nat) (xs : List ByteArray) : Prop :=
  xs.length = n ∧ (n ≤ c ∧ c ≤ 9223372036854775807) ∧ ∀ i, i < n → ∃ b off, A = some ⟨b, off, none⟩ ∧ w.cell? ⟨b, off + i, none⟩ = some (.string (gt xs i))
section
variable {w w' : World} {A : Option Addr} {n c : Nat} {xs : List ByteArray}
theorem RS.len (h : RS w A n c xs) : xs.length = n := h.1
theorem RS.cap (h : RS w A n c xs) : n ≤ c := h.2.1.1
theorem RS.top (h : RS w A n c xs) : c ≤ 9223372036854775807 := h.2.1.2
theorem RS.at_ (h : RS w A n c xs) {i : Nat} (hi : i < n) : ∃ b off, A = some ⟨b, off, none⟩ ∧ w.cell? ⟨b, off + i, none⟩ = some (.string (gt xs i)) := h.2.2 i hi
theorem RS.keep (h : RS w A n c xs) (k : Keeps w w') : RS w' A n c xs :=
  ⟨h.1, h.2.1, fun i hi => by obtain ⟨b, off, e, hc⟩ := h.2.2 i hi; exact ⟨b, off, e, k _ _ hc⟩⟩
theorem RS.take (h : RS w A n c xs) {k : Nat} (hk : k ≤ n) : RS w A k c (xs.take k) :=
  ⟨by rw [List.length_take, h.1]; omega, ⟨by have := h.cap; omega, h.top⟩, fun i hi => by obtain ⟨b, off, e, hc⟩ := h.2.2 i (by omega); exact ⟨b, off, e, by rw [gt_take hi]; exact hc⟩⟩
end
/-- a row of texts of the call's own -/
def OS (w : World) (lo : Nat) (v : Value) (xs : List ByteArray) : Prop := w.ownsRow lo 9 1 v xs.length (xs.map Value.string)
section
variable {w w' : World} {lo : Nat} {v : Value} {xs : List ByteArray}
theorem OS.form (h : OS w lo v xs) : ∃ A c, v = .slice A xs.length c := by
  rcases h.2 with ⟨rfl, hn⟩ | ⟨g, cap, cur, rfl, _⟩
  · exact ⟨none, 0, by rw [hn]⟩
  · exact ⟨_, _, rfl⟩
theorem OS.reads {n c : Nat} {A : Option Addr} (h : OS w lo (.slice A n c) xs) : RS w A n c xs := by
  have hn : n = xs.length ∧ n ≤ c ∧ c ≤ 9223372036854775807 := by
    rcases h.2 with ⟨h1, hn⟩ | ⟨g, cap, cur, h1, _, _, h2, h3, _⟩
    · injection h1 with _ h2 h3; omega
    · injection h1 with _ h4 h5; unfold maxLen at h3; omega
  obtain ⟨hn, hc⟩ := hn
  subst hn
  refine ⟨rfl, hc, fun i hi => ?_⟩
  rcases h.2 with ⟨h1, hn⟩ | ⟨g, cap, cur, h1, _⟩
  · omega
  · injection h1 with h1 h2 h3
    subst h1
    subst h3
    refine ⟨g, 0, rfl, ?_⟩
    have := h.cellAt i (by omega)
    rw [Nat.zero_add, this, List.getElem?_map, gt_some hi]
    rfl
theorem OS.below (h : OS w lo v xs) (hb : Below w.heap.size w w') : OS w' lo v xs := row_below h hb
theorem OS.more {lo' : Nat} (h : OS w lo v xs) (hl : lo' ≤ lo) : OS w lo' v xs := row_more h hl
theorem OS.lt (h : OS w lo v xs) : ∀ k, v.ownBlock = some k → lo ≤ k ∧ k < w.heap.size := World.ownsRow.lt h
end
theorem OS.nil (w : World) (lo : Nat) : OS w lo (.slice none 0 0) [] := World.ownsRow_nil w lo _ 1
theorem OS.app {w : World} {lo n : Nat} {v : Value} {xs : List ByteArray} {x : ByteArray} (h : w.ownsRow lo 9 1 v (n + 1) (xs.map Value.string ++ [.string x])) (hn : xs.length = n) : OS w lo v (xs ++ [x]) := by
  unfold OS
  rw [List.length_append, List.length_singleton, hn, List.map_append]
  exact h
theorem infoS : (Tryd.prog.info? 9).map (fun i => (i.zero, i.size, i.bytes)) = some (some (.string { data := #[] }), 1, 16) := by kernel_rfl
end Go.Proofs.YtkhkdnmpbfmmeaaDoor
