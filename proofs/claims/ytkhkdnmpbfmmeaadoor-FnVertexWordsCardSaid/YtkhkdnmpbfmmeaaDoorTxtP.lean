/- Text as lists of bytes: numerals, cutting at a byte, joining. Plain laws: no function of the program is named here. -/
import Derived.Test.YtkhkdnmpbfmmeaaDoorLib
import Derived.Lib.SplitLaws
import Derived.Lib.Join
import Derived.Lib.ItoaNum
namespace Go.Proofs.YtkhkdnmpbfmmeaaDoor
open Go.RowKit

/-- the text of these bytes -/
def tx (l : List UInt8) : ByteArray := ⟨l.toArray⟩
theorem tx_data (l : List UInt8) : (tx l).data.toList = l := by simp [tx]
theorem tx_of (s : ByteArray) : tx s.data.toList = s := Lib.mk_data s
theorem tx_size (l : List UInt8) : (tx l).size = l.length := by rw [Lib.size_eq, tx_data]
theorem tx_app (a b : List UInt8) : tx a ++ tx b = tx (a ++ b) := by
  rw [← tx_of (tx a ++ tx b)]
  congr 1
theorem tx_ext (s : ByteArray) (a b : Nat) : s.extract a b = tx ((s.data.toList.drop a).take (b - a)) := Lib.extract_eq s a b

/-! ### cutting at a byte -/
def spl (c : UInt8) : List UInt8 → List (List UInt8)
  | [] => [[]]
  | b :: l => if b = c then [] :: spl c l else
    match spl c l with
    | [] => [[b]]
    | x :: r => (b :: x) :: r
theorem spl_none (c : UInt8) : ∀ (a : List UInt8), c ∉ a → spl c a = [a]
  | [], _ => rfl
  | b :: a, h => by
    have hb : b ≠ c := fun e => h (by simp [e])
    rw [spl, if_neg hb, spl_none c a (fun e => h (List.mem_cons_of_mem _ e))]
theorem spl_hit (c : UInt8) (l : List UInt8) : ∀ (a : List UInt8), c ∉ a → spl c (a ++ c :: l) = a :: spl c l
  | [], _ => by rw [List.nil_append, spl, if_pos rfl]
  | b :: a, h => by
    have hb : b ≠ c := fun e => h (by simp [e])
    rw [List.cons_append, spl, if_neg hb, spl_hit c l a (fun e => h (List.mem_cons_of_mem _ e))]
theorem spl_cut {c : UInt8} {l : List UInt8} (h : c ∈ l) : ∃ a b, l = a ++ c :: b ∧ c ∉ a := by
  induction l with
  | nil => cases h
  | cons x l ih =>
    by_cases e : x = c
    · exact ⟨[], l, by simp [e], by simp⟩
    · have h' : c ∈ l := by
        rcases List.mem_cons.1 h with h1 | h1
        · exact absurd h1.symm e
        · exact h1
      obtain ⟨a, b, h1, h2⟩ := ih h'
      exact ⟨x :: a, b, by rw [h1]; rfl, fun hm => by
        rcases List.mem_cons.1 hm with h3 | h3
        · exact e h3.symm
        · exact h2 h3⟩
theorem index_cut (c : UInt8) (b : List UInt8) : ∀ (a : List UInt8), c ∉ a → Lib.index (a ++ c :: b) [c] = (a.length : Int)
  | [], _ => by rw [List.nil_append, Lib.index]; simp [List.isPrefixOf]
  | x :: a, h => by
    have hb : x ≠ c := fun e => h (by simp [e])
    have hp : ([c] : List UInt8).isPrefixOf (x :: (a ++ c :: b)) = false := by simp [List.isPrefixOf, Ne.symm hb]
    have hi := index_cut c b a (fun e => h (List.mem_cons_of_mem _ e))
    have hne : ((a.length : Int) == -1) = false := by rw [beq_eq_false_iff_ne]; omega
    rw [List.cons_append, Lib.index, hp, hi, hne]
    simp
theorem splitK_spl (c : UInt8) : ∀ (n : Nat) (l : List UInt8), Lib.count l [c] = n → Lib.splitK [c] 0 n l = spl c l := by
  intro n
  induction n with
  | zero =>
    intro l h
    rw [Lib.count_one] at h
    rw [spl_none c l (List.count_eq_zero.1 h)]
    rfl
  | succ n ih =>
    intro l h
    rw [Lib.count_one] at h
    obtain ⟨a, b, rfl, ha⟩ := spl_cut (List.count_pos_iff.1 (by omega : 0 < l.count c))
    have hi := index_cut c b a ha
    have hne : ((a.length : Int) == -1) = false := by rw [beq_eq_false_iff_ne]; omega
    have hb : Lib.count b [c] = n := by
      rw [Lib.count_one]
      rw [List.count_append, List.count_eq_zero.2 ha, List.count_cons_self] at h
      omega
    rw [Lib.splitK, hi, hne, spl_hit c b a ha]
    simp only [Bool.false_eq_true, if_false, Int.toNat_natCast, Nat.add_zero, List.length_singleton]
    rw [List.take_left, List.drop_append, List.drop_of_length_le (by omega), show a.length + 1 - a.length = 1 by omega]
    simp [ih b hb]
theorem split_spl (c : UInt8) (s : ByteArray) : (Lib.splitB ⟨#[c]⟩ 0 (Lib.countB s ⟨#[c]⟩) s).map (·.data.toList) = spl c s.data.toList := by
  rw [Lib.splitB_data]
  exact splitK_spl c _ _ rfl
/-- the pieces as texts -/
def splT (c : UInt8) (s : ByteArray) : List ByteArray := (spl c s.data.toList).map tx
theorem splitB_T (c : UInt8) (s : ByteArray) : Lib.splitB ⟨#[c]⟩ 0 (Lib.countB s ⟨#[c]⟩) s = splT c s := by
  unfold splT
  rw [← split_spl, List.map_map]
  conv => lhs; rw [← List.map_id (Lib.splitB ⟨#[c]⟩ 0 (Lib.countB s ⟨#[c]⟩) s)]
  apply List.map_congr_left
  intro x _
  exact (tx_of x).symm

/-! ### numerals -/
def isDg (b : UInt8) : Bool := decide (48 ≤ b.toNat ∧ b.toNat ≤ 57)
def dgVal (l : List UInt8) : Nat := l.foldl (fun n b => 10 * n + (b.toNat - 48)) 0
theorem dgVal_snoc (l : List UInt8) (b : UInt8) : dgVal (l ++ [b]) = 10 * dgVal l + (b.toNat - 48) := by simp [dgVal]
theorem take_snoc {l : List UInt8} {k : Nat} (h : k < l.length) : l.take (k + 1) = l.take k ++ [l[k]] := List.take_succ_eq_append_getElem h
theorem dgVal_lt : ∀ (k : Nat) (l : List UInt8), k ≤ l.length → (∀ b ∈ l.take k, isDg b = true) → dgVal (l.take k) < 10 ^ k
  | 0, l, _, _ => by simp [dgVal]
  | k + 1, l, hk, h => by
    have hk' : k < l.length := hk
    rw [take_snoc hk'] at h ⊢
    have ih := dgVal_lt k l (by omega) (fun b hb => h b (List.mem_append_left _ hb))
    have h1 := of_decide_eq_true (h l[k] (List.mem_append_right _ (by simp)))
    rw [dgVal_snoc, Nat.pow_succ]
    omega
def rdOk (l : List UInt8) : Bool := decide (0 < l.length ∧ l.length ≤ 9 ∧ ¬ (l.head? = some 48 ∧ 1 < l.length) ∧ ∀ b ∈ l, isDg b = true)
/-- the number from 0 to most of a text; -1: it is none -/
def rdNum (l : List UInt8) (most : Int) : Int := if rdOk l = true ∧ (dgVal l : Int) ≤ most then (dgVal l : Int) else -1

/-! #### the numeral of a number -/
theorem dec_small {u : Nat} (h : u < 10) : Lib.decDigits u = [UInt8.ofNat (48 + u)] := by rw [Lib.decDigits, dif_pos h]
theorem dec_big {u : Nat} (h : ¬ u < 10) : Lib.decDigits u = Lib.decDigits (u / 10) ++ [UInt8.ofNat (48 + u % 10)] := by rw [Lib.decDigits, dif_neg h]
theorem dg_ofNat {u : Nat} (h : u < 10) : (UInt8.ofNat (48 + u)).toNat = 48 + u := by
  rw [UInt8.toNat_ofNat']
  omega
theorem isDg_of {u : Nat} (h : u < 10) : isDg (UInt8.ofNat (48 + u)) = true := decide_eq_true (by rw [dg_ofNat h]; omega)
theorem dec_dg : ∀ u : Nat, ∀ b ∈ Lib.decDigits u, isDg b = true := by
  intro u
  induction u using Nat.strongRecOn with
  | _ u ih =>
    intro b hb
    by_cases h : u < 10
    · rw [dec_small h] at hb
      rw [List.mem_singleton.1 hb]
      exact isDg_of h
    · rw [dec_big h, List.mem_append] at hb
      rcases hb with hb | hb
      · exact ih (u / 10) (by omega) b hb
      · rw [List.mem_singleton.1 hb]
        exact isDg_of (by omega)
theorem dec_val : ∀ u : Nat, dgVal (Lib.decDigits u) = u := by
  intro u
  induction u using Nat.strongRecOn with
  | _ u ih =>
    by_cases h : u < 10
    · rw [dec_small h, show [UInt8.ofNat (48 + u)] = [] ++ [UInt8.ofNat (48 + u)] from rfl, dgVal_snoc, dg_ofNat h]
      simp [dgVal]
    · rw [dec_big h, dgVal_snoc, ih (u / 10) (by omega), dg_ofNat (by omega)]
      omega
theorem dec_ne (u : Nat) : 0 < (Lib.decDigits u).length := by
  rw [Lib.decDigits_length]
  exact Lib.nDigits_pos u
theorem dec_head : ∀ u : Nat, 1 < (Lib.decDigits u).length → (Lib.decDigits u).head? ≠ some 48 := by
  intro u
  induction u using Nat.strongRecOn with
  | _ u ih =>
    intro hl
    by_cases h : u < 10
    · rw [dec_small h] at hl
      simp at hl
    · rw [dec_big h]
      have hne := dec_ne (u / 10)
      have hh : (Lib.decDigits (u / 10) ++ [UInt8.ofNat (48 + u % 10)]).head? = (Lib.decDigits (u / 10)).head? := by
        cases e : Lib.decDigits (u / 10) with
        | nil => rw [e] at hne; simp at hne
        | cons x r => rfl
      rw [hh]
      by_cases h2 : u / 10 < 10
      · rw [dec_small h2]
        intro e
        simp only [List.head?_cons, Option.some.injEq] at e
        have := congrArg UInt8.toNat e
        rw [dg_ofNat h2] at this
        simp at this
        omega
      · refine ih (u / 10) (by omega) ?_
        rw [dec_big h2, List.length_append]
        have := dec_ne (u / 10 / 10)
        simp
        omega
theorem dec_len9 {u : Nat} (h : u < 1000000000) : (Lib.decDigits u).length ≤ 9 := by
  rw [Lib.decDigits_length]
  have key : ∀ (k u : Nat), u < 10 ^ (k + 1) → Lib.nDigits u ≤ k + 1 := by
    intro k
    induction k with
    | zero => intro u h; rw [Lib.nDigits_small (by simpa using h)]; omega
    | succ k ih =>
      intro u h
      by_cases h1 : u < 10
      · rw [Lib.nDigits_small h1]; omega
      · rw [Lib.nDigits_big h1]
        have := ih (u / 10) (by rw [Nat.pow_succ] at h; omega)
        omega
  exact key 8 u h
theorem rdOk_dec {u : Nat} (h : u < 1000000000) : rdOk (Lib.decDigits u) = true :=
  decide_eq_true ⟨dec_ne u, dec_len9 h, fun e => dec_head u e.2 e.1, dec_dg u⟩
theorem itoa_nat (u : Nat) : Lib.itoa (u : Int) = Lib.decDigits u := by
  unfold Lib.itoa
  rw [if_neg (by omega), Int.toNat_natCast]
theorem rdNum_dec {u : Nat} {most : Int} (h : u < 1000000000) (hm : (u : Int) ≤ most) : rdNum (Lib.decDigits u) most = u := by
  unfold rdNum
  rw [if_pos ⟨rdOk_dec h, by rw [dec_val]; exact hm⟩, dec_val]
theorem rdNum_dec_no {u : Nat} {most : Int} (hm : ¬ (u : Int) ≤ most) : rdNum (Lib.decDigits u) most = -1 := by
  unfold rdNum
  rw [if_neg (fun e => hm (by rw [← dec_val u]; exact e.2))]
theorem dec_clean {u : Nat} {c : UInt8} (h : isDg c = false) : c ∉ Lib.decDigits u := fun hc => by
  rw [dec_dg u c hc] at h
  cases h
theorem rdNum_le {l : List UInt8} {most : Int} (h : 0 ≤ rdNum l most) : rdNum l most ≤ most ∧ rdNum l most = (dgVal l : Int) ∧ rdOk l = true := by
  unfold rdNum at h ⊢
  split at h
  · rename_i h1
    rw [if_pos h1]
    exact ⟨h1.2, rfl, h1.1⟩
  · omega

/-! ### joining -/
theorem join_take (xs : List (List UInt8)) (sep : List UInt8) (k : Nat) (h : k < xs.length) :
    Lib.join (xs.take (k + 1)) sep = (if k = 0 then [] else Lib.join (xs.take k) sep ++ sep) ++ xs[k] := by
  cases xs with
  | nil => simp at h
  | cons x r =>
    cases k with
    | zero => simp [Lib.join_one]
    | succ k =>
      rw [List.take_succ_cons, List.take_succ_cons, Lib.join_cons, Lib.join_cons, if_neg (by omega)]
      have h' : k < r.length := by simpa using h
      rw [Lib.joinTail_take_succ sep r k r[k] (by simp [h'])]
      simp
/-- cut at the separator, what was joined is what it was -/
theorem spl_join (c : UInt8) : ∀ (xs : List (List UInt8)), xs ≠ [] → (∀ x ∈ xs, c ∉ x) → spl c (Lib.join xs [c]) = xs
  | [], h, _ => absurd rfl h
  | [x], _, hx => by rw [Lib.join_one, spl_none c x (hx x (by simp))]
  | x :: y :: r, _, hx => by
    have ih := spl_join c (y :: r) (by simp) (fun z hz => hx z (List.mem_cons_of_mem _ hz))
    have e : Lib.join (x :: y :: r) [c] = x ++ c :: Lib.join (y :: r) [c] := by
      rw [Lib.join_cons, Lib.join_cons]
      simp [Lib.joinTail]
    rw [e, spl_hit c _ x (hx x (by simp)), ih]
end Go.Proofs.YtkhkdnmpbfmmeaaDoor
