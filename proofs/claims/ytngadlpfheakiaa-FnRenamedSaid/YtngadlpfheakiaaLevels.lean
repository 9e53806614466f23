/- Levels: what staysLevels and l15Levels count. Plain. -/
import Derived.Test.YtngadlpfheakiaaAcc
import Derived.Test.YtngadlpfheakiaaPlan
import Derived.Test.YtngadlpfheakiaaStay
namespace Go.Proofs.Ytngadlpfheakiaa
open Go.RowKit

/-- a row of bool of which the first k have been written -/
def fillB (f : Nat → Bool) (n k : Nat) : List Bool := (List.range n).map fun i => decide (i < k) && f i
theorem fillB_len (f : Nat → Bool) (n k : Nat) : (fillB f n k).length = n := by simp [fillB]
theorem fillB_at {f : Nat → Bool} {n k i : Nat} (h : i < n) : gb (fillB f n k) i = (decide (i < k) && f i) := by
  rw [gb_get (by rw [fillB_len]; exact h)]; simp [fillB]
theorem fillB_zero (f : Nat → Bool) (n : Nat) : fillB f n 0 = List.replicate n false := gb_ext (by simp [fillB_len]) fun j hj => by
  rw [fillB_len] at hj
  rw [fillB_at hj, gb_rep]; simp
theorem fillB_put {f : Nat → Bool} {n k : Nat} (h : k < n) : (fillB f n k).set k (f k) = fillB f n (k + 1) := gb_ext (by simp [fillB_len]) fun j hj => by
  rw [List.length_set, fillB_len] at hj
  rw [gb_set (by rw [fillB_len]; exact h), fillB_at hj, fillB_at hj]
  by_cases e : k = j
  · subst e; rw [if_pos rfl]; simp
  · rw [if_neg e]
    by_cases e2 : j < k
    · simp [e2, show j < k + 1 by omega]
    · simp [e2, show ¬ j < k + 1 by omega]
theorem gb_true (n i : Nat) (h : i < n) : gb (List.replicate n true) i = true := by
  rw [gb_get (by simpa using h)]; simp
theorem fillB_true (n : Nat) : fillB (fun _ => true) n n = List.replicate n true := gb_ext (by simp [fillB_len]) fun j hj => by
  rw [fillB_len] at hj
  rw [fillB_at hj, gb_true _ _ hj]; simp [hj]

/-- what has a level -/
def lowM (L : List Int) : List Bool := L.map fun x => decide (0 ≤ x)
theorem negL_len (n : Nat) : (negL n).length = n := fill_len _ _

def keptL (o : List Int) (n : List (List Int)) (who : Int) (x sf : List Bool) (r : List Bool) (v : Nat) : Bool := intoB o n who x v || (gb sf v && intoB o n who r v)
noncomputable def lvlSet (o : List Int) (n : List (List Int)) (who : Int) (sf : List Bool) (m : Nat) (L : List Int) : List Bool := gfp (keptL o n who (lowM L) sf) m (List.replicate m true)
def lvlUp (r : List Bool) (l : Int) (L : List Int) : Nat → List Int
  | 0 => L
  | k + 1 => if gb r k = true ∧ gi L k < 0 then (lvlUp r l L k).set k l else lvlUp r l L k
theorem lvlUp_len (r : List Bool) (l : Int) (L : List Int) (k : Nat) : (lvlUp r l L k).length = L.length := by
  induction k with
  | zero => rfl
  | succ k ih => unfold lvlUp; split <;> simp [ih]
theorem lvlUp_off {r : List Bool} {l : Int} {L : List Int} {k : Nat} (h : ¬ (gb r k = true ∧ gi L k < 0)) : lvlUp r l L (k + 1) = lvlUp r l L k := by rw [lvlUp, if_neg h]
def noNew (r : List Bool) (L : List Int) (k : Nat) : Prop := ∀ j, j < k → ¬ (gb r j = true ∧ gi L j < 0)
theorem lvlUp_none {r : List Bool} {l : Int} {L : List Int} : ∀ {k : Nat}, noNew r L k → lvlUp r l L k = L
  | 0, _ => rfl
  | k + 1, h => by rw [lvlUp_off (h k (by omega)), lvlUp_none fun j hj => h j (by omega)]
noncomputable def lvls (o : List Int) (n : List (List Int)) (who : Int) (sf : List Bool) (m : Nat) : Nat → List Int
  | 0 => negL m
  | t + 1 => lvlUp (lvlSet o n who sf m (lvls o n who sf m t)) t (lvls o n who sf m t) m
theorem lvls_len (o : List Int) (n : List (List Int)) (who : Int) (sf : List Bool) (m t : Nat) : (lvls o n who sf m t).length = m := by
  induction t with
  | zero => exact negL_len m
  | succ t ih => rw [lvls, lvlUp_len, ih]
def isLvl (o : List Int) (n : List (List Int)) (who : Int) (sf : List Bool) (m : Nat) (L : List Int) : Prop := ∃ t, L = lvls o n who sf m t ∧ noNew (lvlSet o n who sf m L) L m
theorem lvls_fix {o : List Int} {n : List (List Int)} {who : Int} {sf : List Bool} {m t : Nat} (h : noNew (lvlSet o n who sf m (lvls o n who sf m t)) (lvls o n who sf m t) m) : ∀ d, lvls o n who sf m (t + d) = lvls o n who sf m t
  | 0 => rfl
  | d + 1 => by rw [← Nat.add_assoc, lvls, lvls_fix h d, lvlUp_none h]
theorem isLvl.eq {o : List Int} {n : List (List Int)} {who : Int} {sf : List Bool} {m : Nat} {r r' : List Int} (h : isLvl o n who sf m r) (h' : isLvl o n who sf m r') : r = r' := by
  obtain ⟨t, rfl, hf⟩ := h
  obtain ⟨t', rfl, hf'⟩ := h'
  rcases Nat.le_total t t' with hl | hl
  · have := lvls_fix hf (t' - t)
    rw [show t + (t' - t) = t' from by omega] at this
    exact this.symm
  · have := lvls_fix hf' (t - t')
    rw [show t' + (t - t') = t from by omega] at this
    exact this
noncomputable def lvlE (o : List Int) (n : List (List Int)) (who : Int) (sf : List Bool) (m : Nat) : List Int := @Classical.epsilon _ ⟨[]⟩ (isLvl o n who sf m)
theorem isLvl.is {o : List Int} {n : List (List Int)} {who : Int} {sf : List Bool} {m : Nat} {r : List Int} (h : isLvl o n who sf m r) : r = lvlE o n who sf m := h.eq (@Classical.epsilon_spec _ (isLvl o n who sf m) ⟨r, h⟩)
theorem isLvl.len {o : List Int} {n : List (List Int)} {who : Int} {sf : List Bool} {m : Nat} {r : List Int} (h : isLvl o n who sf m r) : r.length = m := by
  obtain ⟨t, rfl, _⟩ := h
  exact lvls_len _ _ _ _ _ _
end Go.Proofs.Ytngadlpfheakiaa
