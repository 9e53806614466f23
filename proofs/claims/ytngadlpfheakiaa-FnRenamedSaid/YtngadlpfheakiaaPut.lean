/- l14Put: a number put into a set. The dice of chapter 14: what they throw; l14Under; the program's closure. -/
import Derived.Test.YtngadlpfheakiaaApp
import Derived.Test.YtngadlpfheakiaaPick
import Derived.Test.YtngadlpfheakiaaUse
import Derived.IntWalk
namespace Go.Proofs.Ytngadlpfheakiaa
open Go.RowKit

/-- the first k places of the set with x put in; has x come in -/
def putUp (xs : List Int) (x : Int) : Nat → List Int × Bool
  | 0 => ([], false)
  | k + 1 => if (putUp xs x k).2 = true then ((putUp xs x k).1 ++ [gi xs k], true) else if gi xs k = x then ((putUp xs x k).1 ++ [gi xs k], true) else if x < gi xs k then (((putUp xs x k).1 ++ [x]) ++ [gi xs k], true) else ((putUp xs x k).1 ++ [gi xs k], false)
def putL (xs : List Int) (x : Int) : List Int := if (putUp xs x xs.length).2 = true then (putUp xs x xs.length).1 else (putUp xs x xs.length).1 ++ [x]
theorem putUp_1 {xs : List Int} {x : Int} {k : Nat} (h : (putUp xs x k).2 = true) : putUp xs x (k + 1) = ((putUp xs x k).1 ++ [gi xs k], true) := by rw [putUp, if_pos h]
theorem putUp_2 {xs : List Int} {x : Int} {k : Nat} (h : (putUp xs x k).2 = false) (h2 : gi xs k = x) : putUp xs x (k + 1) = ((putUp xs x k).1 ++ [gi xs k], true) := by rw [putUp, if_neg (by rw [h]; simp), if_pos h2]
theorem putUp_3 {xs : List Int} {x : Int} {k : Nat} (h : (putUp xs x k).2 = false) (h2 : ¬ gi xs k = x) (h3 : x < gi xs k) : putUp xs x (k + 1) = (((putUp xs x k).1 ++ [x]) ++ [gi xs k], true) := by rw [putUp, if_neg (by rw [h]; simp), if_neg h2, if_pos h3]
theorem putUp_4 {xs : List Int} {x : Int} {k : Nat} (h : (putUp xs x k).2 = false) (h2 : ¬ gi xs k = x) (h3 : ¬ x < gi xs k) : putUp xs x (k + 1) = ((putUp xs x k).1 ++ [gi xs k], false) := by rw [putUp, if_neg (by rw [h]; simp), if_neg h2, if_neg h3]
theorem putUp_len (xs : List Int) (x : Int) : ∀ k, (putUp xs x k).1.length ≤ k + 1 ∧ ((putUp xs x k).2 = false → (putUp xs x k).1.length ≤ k)
  | 0 => by simp [putUp]
  | k + 1 => by
    have ih := putUp_len xs x k
    cases h : (putUp xs x k).2 with
    | true => rw [putUp_1 h]; simp; omega
    | false =>
      have ih2 := ih.2 h
      by_cases h2 : gi xs k = x
      · rw [putUp_2 h h2]; simp; omega
      · by_cases h3 : x < gi xs k
        · rw [putUp_3 h h2 h3]; simp; omega
        · rw [putUp_4 h h2 h3]; simp; omega
theorem putL_len (xs : List Int) (x : Int) : (putL xs x).length ≤ xs.length + 1 := by
  have h := putUp_len xs x xs.length
  unfold putL
  split
  · exact h.1
  · rename_i hn
    have := h.2 (by simpa using hn)
    simp; omega

/-! ### ascending lists -/
theorem asc_ext : ∀ {a b : List Int}, a.Pairwise (· < ·) → b.Pairwise (· < ·) → (∀ x, x ∈ a ↔ x ∈ b) → a = b
  | [], [], _, _, _ => rfl
  | [], y :: b, _, _, h => absurd ((h y).2 List.mem_cons_self) (by simp)
  | x :: a, [], _, _, h => absurd ((h x).1 List.mem_cons_self) (by simp)
  | x :: a, y :: b, ha, hb, h => by
    have ha' := List.pairwise_cons.1 ha
    have hb' := List.pairwise_cons.1 hb
    have e : x = y := by
      rcases List.mem_cons.1 ((h x).1 List.mem_cons_self) with e | e
      · exact e
      · rcases List.mem_cons.1 ((h y).2 List.mem_cons_self) with e2 | e2
        · exact e2.symm
        · have h1 := hb'.1 x e
          have h2 := ha'.1 y e2
          omega
    subst e
    rw [asc_ext ha'.2 hb'.2 fun z => ?_]
    constructor
    · intro hz
      rcases List.mem_cons.1 ((h z).1 (List.mem_cons_of_mem _ hz)) with e | e
      · have := ha'.1 z hz; omega
      · exact e
    · intro hz
      rcases List.mem_cons.1 ((h z).2 (List.mem_cons_of_mem _ hz)) with e | e
      · have := hb'.1 z hz; omega
      · exact e
/-- what stands ahead of place k of an ascending list -/
theorem putUp_asc {xs : List Int} {x : Int} (h : xs.Pairwise (· < ·)) : ∀ k, k ≤ xs.length → (putUp xs x k).1.Pairwise (· < ·) ∧ ((putUp xs x k).2 = true → ∀ y, y ∈ (putUp xs x k).1 ↔ y = x ∨ y ∈ xs.take k) ∧ ((putUp xs x k).2 = false → (putUp xs x k).1 = xs.take k ∧ ∀ y, y ∈ xs.take k → y < x) ∧ ∀ y, y ∈ (putUp xs x k).1 → ∀ i, k ≤ i → i < xs.length → y < gi xs i
  | 0, _ => by simp [putUp]
  | k + 1, hk => by
    obtain ⟨i1, i2, i3, i4⟩ := putUp_asc (x := x) h k (by omega)
    have hlt : k < xs.length := by omega
    have ht := take_gi hlt
    have up : ∀ i, k < i → i < xs.length → gi xs k < gi xs i := fun i h1 h2 => by
      rw [gi_get hlt, gi_get h2]
      exact List.pairwise_iff_getElem.1 h k i hlt h2 h1
    have old : ∀ y, y ∈ xs.take k → y < gi xs k := fun y hy => by
      obtain ⟨j, hj, rfl⟩ := List.getElem_of_mem hy
      rw [List.length_take] at hj
      rw [List.getElem_take, gi_get hlt]
      exact List.pairwise_iff_getElem.1 h j k (by omega) hlt (by omega)
    cases hd : (putUp xs x k).2 with
    | true =>
      rw [putUp_1 hd]
      have hm := i2 hd
      refine ⟨List.pairwise_append.2 ⟨i1, by simp, fun a ha b hb => by
        rw [List.mem_singleton] at hb
        subst hb
        exact i4 a ha k (Nat.le_refl _) hlt⟩, fun _ y => ?_, fun h => by simp at h, fun y hy i h1 h2 => ?_⟩
      · rw [ht, List.mem_append, List.mem_append, hm y]
        constructor
        · rintro ((h | h) | h)
          · exact .inl h
          · exact .inr (.inl h)
          · exact .inr (.inr h)
        · rintro (h | h | h)
          · exact .inl (.inl h)
          · exact .inl (.inr h)
          · exact .inr h
      · rw [List.mem_append, List.mem_singleton] at hy
        rcases hy with hy | rfl
        · exact i4 y hy i (by omega) h2
        · exact up i (by omega) h2
    | false =>
      obtain ⟨j1, j2⟩ := i3 hd
      have base : ((putUp xs x k).1 ++ [gi xs k]).Pairwise (· < ·) := by
        rw [j1]
        refine List.pairwise_append.2 ⟨j1 ▸ i1, by simp, fun a ha b hb => ?_⟩
        rw [List.mem_singleton] at hb
        subst hb
        exact old a ha
      have ahead : ∀ y, y ∈ (putUp xs x k).1 ++ [gi xs k] → ∀ i, k + 1 ≤ i → i < xs.length → y < gi xs i := fun y hy i h1 h2 => by
        rw [List.mem_append, List.mem_singleton] at hy
        rcases hy with hy | rfl
        · exact i4 y hy i (by omega) h2
        · exact up i (by omega) h2
      by_cases h2 : gi xs k = x
      · rw [putUp_2 hd h2]
        refine ⟨base, fun _ y => ?_, fun h => by simp at h, ahead⟩
        rw [j1, ht, List.mem_append, List.mem_singleton, h2]
        constructor
        · rintro (h | h)
          · exact .inr (.inl h)
          · exact .inl h
        · rintro (h | h | h)
          · exact .inr h
          · exact .inl h
          · exact .inr h
      · by_cases h3 : x < gi xs k
        · rw [putUp_3 hd h2 h3]
          refine ⟨?_, fun _ y => ?_, fun h => by simp at h, fun y hy i h1 h5 => ?_⟩
          · rw [List.append_assoc]
            refine List.pairwise_append.2 ⟨i1, by simp [h3], fun a ha b hb => ?_⟩
            rw [j1] at ha
            simp at hb
            rcases hb with rfl | rfl
            · exact j2 a ha
            · exact old a ha
          · rw [j1, ht]
            simp only [List.mem_append, List.mem_singleton]
            constructor
            · rintro ((h | h) | h)
              · exact .inr (.inl h)
              · exact .inl h
              · exact .inr (.inr h)
            · rintro (h | h | h)
              · exact .inl (.inr h)
              · exact .inl (.inl h)
              · exact .inr h
          · simp only [List.mem_append, List.mem_singleton] at hy
            rcases hy with (hy | rfl) | rfl
            · exact i4 y hy i (by omega) h5
            · have := up i (by omega) h5; omega
            · exact up i (by omega) h5
        · rw [putUp_4 hd h2 h3]
          refine ⟨base, fun h => by simp at h, fun _ => ⟨by rw [ht, j1], fun y hy => ?_⟩, ahead⟩
          rw [ht, List.mem_append, List.mem_singleton] at hy
          rcases hy with hy | rfl
          · exact j2 y hy
          · omega
theorem putL_asc {xs : List Int} {x : Int} (h : xs.Pairwise (· < ·)) : (putL xs x).Pairwise (· < ·) ∧ ∀ y, y ∈ putL xs x ↔ y = x ∨ y ∈ xs := by
  obtain ⟨i1, i2, i3, i4⟩ := putUp_asc (x := x) h xs.length (Nat.le_refl _)
  unfold putL
  cases hd : (putUp xs x xs.length).2 with
  | true =>
    rw [if_pos rfl]
    refine ⟨i1, fun y => ?_⟩
    have := i2 hd y
    rwa [List.take_length] at this
  | false =>
    rw [if_neg (by simp)]
    obtain ⟨j1, j2⟩ := i3 hd
    rw [List.take_length] at j1 j2
    rw [j1] at i1 ⊢
    refine ⟨List.pairwise_append.2 ⟨i1, by simp, fun a ha b hb => ?_⟩, fun y => ?_⟩
    · rw [List.mem_singleton] at hb
      subst hb
      exact j2 a ha
    · rw [List.mem_append, List.mem_singleton]
      exact or_comm
end Go.Proofs.Ytngadlpfheakiaa
namespace Go.Proofs.Ytngadlpfheakiaa
open Go.RowKit

/-- the numbers put into a set, one after the other -/
def putsL (xs : List Int) : List Int := xs.foldl putL []
theorem putsL_snoc (xs : List Int) (x : Int) : putsL (xs ++ [x]) = putL (putsL xs) x := by unfold putsL; simp
theorem putsL_len (xs : List Int) : (putsL xs).length ≤ xs.length := by
  suffices h : ∀ n (xs : List Int), xs.length = n → (putsL xs).length ≤ n from h _ xs rfl
  intro n
  induction n with
  | zero => intro xs h; rw [List.eq_nil_of_length_eq_zero h]; simp [putsL]
  | succ n ih =>
    intro xs h
    have e : xs = xs.take n ++ [gi xs n] := by rw [← take_gi (by omega), List.take_of_length_le (by omega)]
    rw [e, putsL_snoc]
    have h1 := putL_len (putsL (xs.take n)) (gi xs n)
    have h2 := ih (xs.take n) (by rw [List.length_take]; omega)
    omega
theorem putsL_asc (xs : List Int) : (putsL xs).Pairwise (· < ·) ∧ ∀ y, y ∈ putsL xs ↔ y ∈ xs := by
  suffices h : ∀ n (xs : List Int), xs.length = n → (putsL xs).Pairwise (· < ·) ∧ ∀ y, y ∈ putsL xs ↔ y ∈ xs from h _ xs rfl
  intro n
  induction n with
  | zero => intro xs h; rw [List.eq_nil_of_length_eq_zero h]; simp [putsL]
  | succ n ih =>
    intro xs h
    have e : xs = xs.take n ++ [gi xs n] := by rw [← take_gi (by omega), List.take_of_length_le (by omega)]
    obtain ⟨i1, i2⟩ := ih (xs.take n) (by rw [List.length_take]; omega)
    rw [e, putsL_snoc]
    obtain ⟨p1, p2⟩ := putL_asc (x := gi xs n) i1
    refine ⟨p1, fun y => ?_⟩
    rw [p2, i2, List.mem_append, List.mem_singleton]
    exact or_comm

theorem Box.b0 {w : World} {b : Nat} {t : TypeId} {x0 : Value} (h : Box w b t #[x0]) : w.cell? ⟨b, 0, none⟩ = some x0 := h.cell 0
end Go.Proofs.Ytngadlpfheakiaa
