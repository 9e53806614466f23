/- Text as lists of bytes: numerals, cutting at a byte, joining. Plain laws: no function of the program is named here. -/
import Derived.Test.YtkhkdnmpbfmmeaaDoorLib
import Derived.Lib.SplitLaws
import Derived.Lib.Join
import Derived.Lib.ItoaNum
namespace Go.Proofs.YtkhkdnmpbfmmeaaDoor
open Go.RowKit

/-- the text of these bytes -/
def tx (l : List UInt8) : ByteArray := ⟨l.toArray⟩
theorem tx_data (l : List UInt8) : (tx l).data.toList = l := by simp [tx]
theorem tx_of (s : ByteArray) : tx s.data.toList = s := Lib.mk_data s
theorem tx_size (l : List UInt8) : (tx l).size = l.length := by rw [Lib.size_eq, tx_data]
theorem tx_app (a b : List UInt8) : tx a ++ tx b = tx (a ++ b) := by
  rw [← tx_of (tx a ++ tx b)]
  congr 1
theorem tx_ext (s : ByteArray) (a b : Nat) : s.extract a b = tx ((s.data.toList.drop a).take (b - a)) := Lib.extract_eq s a b

/-! ### cutting at a byte -/
def spl (c : UInt8) : List UInt8 → List (List UInt8)
  | [] => [[]]
  | b :: l => if b = c then [] :: spl c l else
    match spl c l with
    | [] => [[b]]
    | x :: r => (b :: x) :: r
theorem spl_none (c : UInt8) : ∀ (a : List UInt8), c ∉ a → spl c a = [a]
  | [], _ => rfl
  | b :: a, h => by
    have hb : b ≠ c := fun e => h (by simp [e])
    rw [spl, if_neg hb, spl_none c a (fun e => h (List.mem_cons_of_mem _ e))]
theorem spl_hit (c : UInt8) (l : List UInt8) : ∀ (a : List UInt8), c ∉ a → spl c (a ++ c :: l) = a :: spl c l
  | [], _ => by rw [List.nil_append, spl, if_pos rfl]
  | b :: a, h => by
    have hb : b ≠ c := fun e => h (by simp [e])
    rw [List.cons_append, spl, if_neg hb, spl_hit c l a (fun e => h (List.mem_cons_of_mem _ e))]
theorem spl_ne (c : UInt8) (l : List UInt8) : spl c l ≠ [] := by
  cases l with
  | nil => simp [spl]
  | cons b l =>
    unfold spl
    split
    · simp
    · split <;> simp
theorem spl_cut {c : UInt8} {l : List UInt8} (h : c ∈ l) : ∃ a b, l = a ++ c :: b ∧ c ∉ a := by
  induction l with
  | nil => cases h
  | cons x l ih =>
    by_cases e : x = c
    · exact ⟨[], l, by simp [e], by simp⟩
    · have h' : c ∈ l := by
        rcases List.mem_cons.1 h with h1 | h1
        · exact absurd h1.symm e
        · exact h1
      obtain ⟨a, b, h1, h2⟩ := ih h'
      exact ⟨x :: a, b, by rw [h1]; rfl, fun hm => by
        rcases List.mem_cons.1 hm with h3 | h3
        · exact e h3.symm
        · exact h2 h3⟩
/-- how long the text is -/
theorem spl_length (c : UInt8) : ∀ (n : Nat) (l : List UInt8), l.length ≤ n → l.length + 1 = ((spl c l).map (·.length + 1)).sum := by
  intro n
  induction n with
  | zero =>
    intro l h
    obtain rfl : l = [] := List.length_eq_zero_iff.1 (by omega)
    simp [spl]
  | succ n ih =>
    intro l h
    by_cases hc : c ∈ l
    · obtain ⟨a, b, rfl, ha⟩ := spl_cut hc
      have := ih b (by simp at h; omega)
      rw [spl_hit c b a ha, List.map_cons, List.sum_cons, ← this]
      simp
      omega
    · rw [spl_none c l hc]
      simp
theorem index_cut (c : UInt8) (b : List UInt8) : ∀ (a : List UInt8), c ∉ a → Lib.index (a ++ c :: b) [c] = (a.length : Int)
  | [], _ => by rw [List.nil_append, Lib.index]; simp [List.isPrefixOf]
  | x :: a, h => by
    have hb : x ≠ c := fun e => h (by simp [e])
    have hp : ([c] : List UInt8).isPrefixOf (x :: (a ++ c :: b)) = false := by simp [List.isPrefixOf, Ne.symm hb]
    have hi := index_cut c b a (fun e => h (List.mem_cons_of_mem _ e))
    have hne : ((a.length : Int) == -1) = false := by rw [beq_eq_false_iff_ne]; omega
    rw [List.cons_append, Lib.index, hp, hi, hne]
    simp
theorem splitK_spl (c : UInt8) : ∀ (n : Nat) (l : List UInt8), Lib.count l [c] = n → Lib.splitK [c] 0 n l = spl c l := by
  intro n
  induction n with
  | zero =>
    intro l h
    rw [Lib.count_one] at h
    rw [spl_none c l (List.count_eq_zero.1 h)]
    rfl
  | succ n ih =>
    intro l h
    rw [Lib.count_one] at h
    obtain ⟨a, b, rfl, ha⟩ := spl_cut (List.count_pos_iff.1 (by omega : 0 < l.count c))
    have hi := index_cut c b a ha
    have hne : ((a.length : Int) == -1) = false := by rw [beq_eq_false_iff_ne]; omega
    have hb : Lib.count b [c] = n := by
      rw [Lib.count_one]
      rw [List.count_append, List.count_eq_zero.2 ha, List.count_cons_self] at h
      omega
    rw [Lib.splitK, hi, hne, spl_hit c b a ha]
    simp only [Bool.false_eq_true, if_false, Int.toNat_natCast, Nat.add_zero, List.length_singleton]
    rw [List.take_left, List.drop_append, List.drop_of_length_le (by omega), show a.length + 1 - a.length = 1 by omega]
    simp [ih b hb]
theorem split_spl (c : UInt8) (s : ByteArray) : (Lib.splitB ⟨#[c]⟩ 0 (Lib.countB s ⟨#[c]⟩) s).map (·.data.toList) = spl c s.data.toList := by
  rw [Lib.splitB_data]
  exact splitK_spl c _ _ rfl
/-- the pieces as texts -/
def splT (c : UInt8) (s : ByteArray) : List ByteArray := (spl c s.data.toList).map tx
theorem splitB_T (c : UInt8) (s : ByteArray) : Lib.splitB ⟨#[c]⟩ 0 (Lib.countB s ⟨#[c]⟩) s = splT c s := by
  unfold splT
  rw [← split_spl, List.map_map]
  conv => lhs; rw [← List.map_id (Lib.splitB ⟨#[c]⟩ 0 (Lib.countB s ⟨#[c]⟩) s)]
  apply List.map_congr_left
  intro x _
  exact (tx_of x).symm

/-! ### numerals -/
def isDg (b : UInt8) : Bool := decide (48 ≤ b.toNat ∧ b.toNat ≤ 57)
def dgVal (l : List UInt8) : Nat := l.foldl (fun n b => 10 * n + (b.toNat - 48)) 0
theorem dgVal_snoc (l : List UInt8) (b : UInt8) : dgVal (l ++ [b]) = 10 * dgVal l + (b.toNat - 48) := by simp [dgVal]
theorem take_snoc {l : List UInt8} {k : Nat} (h : k < l.length) : l.take (k + 1) = l.take k ++ [l[k]] := List.take_succ_eq_append_getElem h
theorem dgVal_lt : ∀ (k : Nat) (l : List UInt8), k ≤ l.length → (∀ b ∈ l.take k, isDg b = true) → dgVal (l.take k) < 10 ^ k
  | 0, l, _, _ => by simp [dgVal]
  | k + 1, l, hk, h => by
    have hk' : k < l.length := hk
    rw [take_snoc hk'] at h ⊢
    have ih := dgVal_lt k l (by omega) (fun b hb => h b (List.mem_append_left _ hb))
    have h1 := of_decide_eq_true (h l[k] (List.mem_append_right _ (by simp)))
    rw [dgVal_snoc, Nat.pow_succ]
    omega
def rdOk (l : List UInt8) : Bool := decide (0 < l.length ∧ l.length ≤ 9 ∧ ¬ (l.head? = some 48 ∧ 1 < l.length) ∧ ∀ b ∈ l, isDg b = true)
/-- the number from 0 to most of a text; -1: it is none -/
def rdNum (l : List UInt8) (most : Int) : Int := if rdOk l = true ∧ (dgVal l : Int) ≤ most then (dgVal l : Int) else -1

theorem rdOk_lt {l : List UInt8} (h : rdOk l = true) : dgVal l < 1000000000 := by
  obtain ⟨h1, h2, _, h4⟩ := of_decide_eq_true h
  have := dgVal_lt l.length l (Nat.le_refl _) (by rw [List.take_length]; exact h4)
  rw [List.take_length] at this
  exact Nat.lt_of_lt_of_le this (Nat.pow_le_pow_right (by decide : 0 < 10) h2)
theorem dgVal_cons (b : UInt8) (l : List UInt8) : dgVal (b :: l) = (b.toNat - 48) * 10 ^ l.length + dgVal l := by
  have key : ∀ (l : List UInt8) (a : Nat), l.foldl (fun n b => 10 * n + (b.toNat - 48)) a = a * 10 ^ l.length + dgVal l := by
    intro l
    induction l with
    | nil => intro a; simp [dgVal]
    | cons x l ih =>
      intro a
      unfold dgVal
      rw [List.foldl_cons, List.foldl_cons, ih, ih (10 * 0 + (x.toNat - 48)), List.length_cons, Nat.pow_succ]
      generalize 10 ^ l.length = p
      generalize x.toNat - 48 = q
      rw [Nat.add_mul, Nat.mul_zero, Nat.zero_add, ← Nat.add_assoc, Nat.mul_comm 10 a, Nat.mul_assoc, Nat.mul_comm 10 p]
  show (b :: l).foldl (fun n b => 10 * n + (b.toNat - 48)) 0 = _
  rw [List.foldl_cons, key, Nat.mul_zero, Nat.zero_add]
/-- a numeral of a number below 1000 is short -/
theorem rdOk_short {l : List UInt8} (h : rdOk l = true) (hv : dgVal l < 1000) : l.length ≤ 3 := by
  obtain ⟨h1, h2, h3, h4⟩ := of_decide_eq_true h
  cases l with
  | nil => simp
  | cons b l =>
    rcases Nat.lt_or_ge l.length 3 with h5 | h5
    · simp; omega
    · have hb := of_decide_eq_true (h4 b (by simp))
      have hne : b.toNat ≠ 48 := fun e => h3 ⟨by
        have : b = 48 := by rw [← UInt8.toNat_inj]; simpa using e
        simp [this], by simp; omega⟩
      rw [dgVal_cons] at hv
      have h6 : 1000 ≤ 10 ^ l.length := Nat.pow_le_pow_right (by decide : 0 < 10) h5
      have h7 : 1 * 10 ^ l.length ≤ (b.toNat - 48) * 10 ^ l.length := Nat.mul_le_mul_right _ (by omega)
      omega

/-! #### the numeral of a number -/
theorem dec_small {u : Nat} (h : u < 10) : Lib.decDigits u = [UInt8.ofNat (48 + u)] := by rw [Lib.decDigits, dif_pos h]
theorem dec_big {u : Nat} (h : ¬ u < 10) : Lib.decDigits u = Lib.decDigits (u / 10) ++ [UInt8.ofNat (48 + u % 10)] := by rw [Lib.decDigits, dif_neg h]
theorem dg_ofNat {u : Nat} (h : u < 10) : (UInt8.ofNat (48 + u)).toNat = 48 + u := by
  rw [UInt8.toNat_ofNat']
  omega
theorem dec_len9 {u : Nat} (h : u < 1000000000) : (Lib.decDigits u).length ≤ 9 := by
  rw [Lib.decDigits_length]
  have key : ∀ (k u : Nat), u < 10 ^ (k + 1) → Lib.nDigits u ≤ k + 1 := by
    intro k
    induction k with
    | zero => intro u h; rw [Lib.nDigits_small (by simpa using h)]; omega
    | succ k ih =>
      intro u h
      by_cases h1 : u < 10
      · rw [Lib.nDigits_small h1]; omega
      · rw [Lib.nDigits_big h1]
        have := ih (u / 10) (by rw [Nat.pow_succ] at h; omega)
        omega
  exact key 8 u h
theorem itoa_nat (u : Nat) : Lib.itoa (u : Int) = Lib.decDigits u := by
  unfold Lib.itoa
  rw [if_neg (by omega), Int.toNat_natCast]
theorem rdNum_le {l : List UInt8} {most : Int} (h : 0 ≤ rdNum l most) : rdNum l most ≤ most ∧ rdNum l most = (dgVal l : Int) ∧ rdOk l = true := by
  unfold rdNum at h ⊢
  split at h
  · rename_i h1
    rw [if_pos h1]
    exact ⟨h1.2, rfl, h1.1⟩
  · omega

/-! ### joining -/
theorem join_take (xs : List (List UInt8)) (sep : List UInt8) (k : Nat) (h : k < xs.length) :
    Lib.join (xs.take (k + 1)) sep = (if k = 0 then [] else Lib.join (xs.take k) sep ++ sep) ++ xs[k] := by
  cases xs with
  | nil => simp at h
  | cons x r =>
    cases k with
    | zero => simp [Lib.join_one]
    | succ k =>
      rw [List.take_succ_cons, List.take_succ_cons, Lib.join_cons, Lib.join_cons, if_neg (by omega)]
      have h' : k < r.length := by simpa using h
      rw [Lib.joinTail_take_succ sep r k r[k] (by simp [h'])]
      simp
end Go.Proofs.YtkhkdnmpbfmmeaaDoor
