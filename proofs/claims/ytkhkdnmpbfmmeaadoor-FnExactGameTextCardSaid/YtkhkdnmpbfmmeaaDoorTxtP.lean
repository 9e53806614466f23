/- Text as lists of bytes: numerals, cutting at a byte, joining. Plain laws: no function of the program is named here. -/
import Derived.Test.YtkhkdnmpbfmmeaaDoorLib
import Derived.Lib.SplitLaws
import Derived.Lib.Join
import Derived.Lib.ItoaNum
namespace Go.Proofs.YtkhkdnmpbfmmeaaDoor
open Go.RowKit

/-- the text of these bytes -/
def tx (l : List UInt8) : ByteArray := ⟨l.toArray⟩
theorem tx_data (l : List UInt8) : (tx l).data.toList = l := by simp [tx]
theorem tx_of (s : ByteArray) : tx s.data.toList = s := Lib.mk_data s
theorem tx_size (l : List UInt8) : (tx l).size = l.length := by rw [Lib.size_eq, tx_data]
theorem tx_app (a b : List UInt8) : tx a ++ tx b = tx (a ++ b) := by
  rw [← tx_of (tx a ++ tx b)]
  congr 1
theorem tx_ext (s : ByteArray) (a b : Nat) : s.extract a b = tx ((s.data.toList.drop a).take (b - a)) := Lib.extract_eq s a b

/-! ### cutting at a byte -/
def spl (c : UInt8) : List UInt8 → List (List UInt8)
  | [] => [[]]
  | b :: l => if b = c then [] :: spl c l else
    match spl c l with
    | [] => [[b]]
    | x :: r => (b :: x) :: r
theorem spl_none (c : UInt8) : ∀ (a : List UInt8), c ∉ a → spl c a = [a]
  | [], _ => rfl
  | b :: a, h => by
    have hb : b ≠ c := fun e => h (by simp [e])
    rw [spl, if_neg hb, spl_none c a (fun e => h (List.mem_cons_of_mem _ e))]
theorem spl_hit (c : UInt8) (l : List UInt8) : ∀ (a : List UInt8), c ∉ a → spl c (a ++ c :: l) = a :: spl c l
  | [], _ => by rw [List.nil_append, spl, if_pos rfl]
  | b :: a, h => by
    have hb : b ≠ c := fun e => h (by simp [e])
    rw [List.cons_append, spl, if_neg hb, spl_hit c l a (fun e => h (List.mem_cons_of_mem _ e))]
/-- the pieces as texts -/
def splT (c : UInt8) (s : ByteArray) : List ByteArray := (spl c s.data.toList).map tx
/-! ### numerals -/
def isDg (b : UInt8) : Bool := decide (48 ≤ b.toNat ∧ b.toNat ≤ 57)
def dgVal (l : List UInt8) : Nat := l.foldl (fun n b => 10 * n + (b.toNat - 48)) 0
theorem dgVal_snoc (l : List UInt8) (b : UInt8) : dgVal (l ++ [b]) = 10 * dgVal l + (b.toNat - 48) := by simp [dgVal]
theorem take_snoc {l : List UInt8} {k : Nat} (h : k < l.length) : l.take (k + 1) = l.take k ++ [l[k]] := List.take_succ_eq_append_getElem h
theorem dgVal_lt : ∀ (k : Nat) (l : List UInt8), k ≤ l.length → (∀ b ∈ l.take k, isDg b = true) → dgVal (l.take k) < 10 ^ k
  | 0, l, _, _ => by simp [dgVal]
  | k + 1, l, hk, h => by
    have hk' : k < l.length := hk
    rw [take_snoc hk'] at h ⊢
    have ih := dgVal_lt k l (by omega) (fun b hb => h b (List.mem_append_left _ hb))
    have h1 := of_decide_eq_true (h l[k] (List.mem_append_right _ (by simp)))
    rw [dgVal_snoc, Nat.pow_succ]
    omega
def rdOk (l : List UInt8) : Bool := decide (0 < l.length ∧ l.length ≤ 9 ∧ ¬ (l.head? = some 48 ∧ 1 < l.length) ∧ ∀ b ∈ l, isDg b = true)
/-- the number from 0 to most of a text; -1: it is none -/
def rdNum (l : List UInt8) (most : Int) : Int := if rdOk l = true ∧ (dgVal l : Int) ≤ most then (dgVal l : Int) else -1

theorem rdOk_lt {l : List UInt8} (h : rdOk l = true) : dgVal l < 1000000000 := by
  obtain ⟨h1, h2, _, h4⟩ := of_decide_eq_true h
  have := dgVal_lt l.length l (Nat.le_refl _) (by rw [List.take_length]; exact h4)
  rw [List.take_length] at this
  exact Nat.lt_of_lt_of_le this (Nat.pow_le_pow_right (by decide : 0 < 10) h2)
/-! #### the numeral of a number -/
theorem dec_small {u : Nat} (h : u < 10) : Lib.decDigits u = [UInt8.ofNat (48 + u)] := by rw [Lib.decDigits, dif_pos h]
theorem dec_big {u : Nat} (h : ¬ u < 10) : Lib.decDigits u = Lib.decDigits (u / 10) ++ [UInt8.ofNat (48 + u % 10)] := by rw [Lib.decDigits, dif_neg h]
theorem dg_ofNat {u : Nat} (h : u < 10) : (UInt8.ofNat (48 + u)).toNat = 48 + u := by
  rw [UInt8.toNat_ofNat']
  omega
theorem dec_len9 {u : Nat} (h : u < 1000000000) : (Lib.decDigits u).length ≤ 9 := by
  rw [Lib.decDigits_length]
  have key : ∀ (k u : Nat), u < 10 ^ (k + 1) → Lib.nDigits u ≤ k + 1 := by
    intro k
    induction k with
    | zero => intro u h; rw [Lib.nDigits_small (by simpa using h)]; omega
    | succ k ih =>
      intro u h
      by_cases h1 : u < 10
      · rw [Lib.nDigits_small h1]; omega
      · rw [Lib.nDigits_big h1]
        have := ih (u / 10) (by rw [Nat.pow_succ] at h; omega)
        omega
  exact key 8 u h
theorem itoa_nat (u : Nat) : Lib.itoa (u : Int) = Lib.decDigits u := by
  unfold Lib.itoa
  rw [if_neg (by omega), Int.toNat_natCast]
/-! ### joining -/
theorem join_take (xs : List (List UInt8)) (sep : List UInt8) (k : Nat) (h : k < xs.length) :
    Lib.join (xs.take (k + 1)) sep = (if k = 0 then [] else Lib.join (xs.take k) sep ++ sep) ++ xs[k] := by
  cases xs with
  | nil => simp at h
  | cons x r =>
    cases k with
    | zero => simp [Lib.join_one]
    | succ k =>
      rw [List.take_succ_cons, List.take_succ_cons, Lib.join_cons, Lib.join_cons, if_neg (by omega)]
      have h' : k < r.length := by simpa using h
      rw [Lib.joinTail_take_succ sep r k r[k] (by simp [h'])]
      simp
end Go.Proofs.YtkhkdnmpbfmmeaaDoor
