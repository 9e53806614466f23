/- Levels: what staysLevels and l15Levels count. Plain. -/
import Derived.Test.YtlmhhnplacejkaaAcc
import Derived.Test.YtlmhhnplacejkaaPlan
import Derived.Test.YtlmhhnplacejkaaStay
namespace Go.Proofs.Ytlmhhnplacejkaa
open Go.RowKit

/-- a row of bool of which the first k have been written -/
def fillB (f : Nat → Bool) (n k : Nat) : List Bool := (List.range n).map fun i => decide (i < k) && f i
theorem fillB_len (f : Nat → Bool) (n k : Nat) : (fillB f n k).length = n := by simp [fillB]
theorem fillB_at {f : Nat → Bool} {n k i : Nat} (h : i < n) : gb (fillB f n k) i = (decide (i < k) && f i) := by
  rw [gb_get (by rw [fillB_len]; exact h)]; simp [fillB]
theorem fillB_zero (f : Nat → Bool) (n : Nat) : fillB f n 0 = List.replicate n false := gb_ext (by simp [fillB_len]) fun j hj => by
  rw [fillB_len] at hj
  rw [fillB_at hj, gb_rep]; simp
theorem fillB_put {f : Nat → Bool} {n k : Nat} (h : k < n) : (fillB f n k).set k (f k) = fillB f n (k + 1) := gb_ext (by simp [fillB_len]) fun j hj => by
  rw [List.length_set, fillB_len] at hj
  rw [gb_set (by rw [fillB_len]; exact h), fillB_at hj, fillB_at hj]
  by_cases e : k = j
  · subst e; rw [if_pos rfl]; simp
  · rw [if_neg e]
    by_cases e2 : j < k
    · simp [e2, show j < k + 1 by omega]
    · simp [e2, show ¬ j < k + 1 by omega]
theorem gb_true (n i : Nat) (h : i < n) : gb (List.replicate n true) i = true := by
  rw [gb_get (by simpa using h)]; simp
theorem fillB_true (n : Nat) : fillB (fun _ => true) n n = List.replicate n true := gb_ext (by simp [fillB_len]) fun j hj => by
  rw [fillB_len] at hj
  rw [fillB_at hj, gb_true _ _ hj]; simp [hj]

/-- what has a level -/
def lowM (L : List Int) : List Bool := L.map fun x => decide (0 ≤ x)
theorem lowM_len (L : List Int) : (lowM L).length = L.length := by simp [lowM]
theorem lowM_at {L : List Int} {i : Nat} (h : i < L.length) : gb (lowM L) i = decide (0 ≤ gi L i) := by
  rw [gb_get (by rw [lowM_len]; exact h), gi_get h]; simp [lowM]
theorem lowM_set {L : List Int} {k : Nat} {x : Int} (hx : 0 ≤ x) : (lowM L).set k true = lowM (L.set k x) := by
  unfold lowM
  rw [List.map_set, decide_eq_true hx]
theorem lowM_fill {L : List Int} {n : Nat} (h : L.length = n) : fillB (fun i => decide (0 ≤ gi L i)) n n = lowM L := gb_ext (by rw [fillB_len, lowM_len, h]) fun j hj => by
  rw [fillB_len] at hj
  rw [fillB_at hj, lowM_at (by omega)]; simp [hj]
theorem lowM_neg (n : Nat) : lowM (negL n) = List.replicate n false := gb_ext (by rw [lowM_len]; simp [negL, fill_len]) fun j hj => by
  have hj' : j < n := by rw [lowM_len] at hj; simpa [negL, fill_len] using hj
  rw [gb_rep, lowM_at (by simpa [negL, fill_len] using hj')]
  unfold negL
  rw [fill_at hj']; decide
theorem negL_len (n : Nat) : (negL n).length = n := fill_len _ _

def keptL (o : List Int) (n : List (List Int)) (who : Int) (x sf : List Bool) (r : List Bool) (v : Nat) : Bool := intoB o n who x v || (gb sf v && intoB o n who r v)
theorem keptL_1 {o : List Int} {n : List (List Int)} {who : Int} {x sf r : List Bool} {v : Nat} (h : intoB o n who x v = true) : keptL o n who x sf r v = true := by unfold keptL; rw [h]; rfl
theorem keptL_2 {o : List Int} {n : List (List Int)} {who : Int} {x sf r : List Bool} {v : Nat} (h : intoB o n who x v = false) (h2 : gb sf v = false) : keptL o n who x sf r v = false := by unfold keptL; rw [h, h2]; rfl
theorem keptL_3 {o : List Int} {n : List (List Int)} {who : Int} {x sf r : List Bool} {v : Nat} {b : Bool} (h : intoB o n who x v = false) (h2 : gb sf v = true) (h3 : intoB o n who r v = b) : keptL o n who x sf r v = b := by unfold keptL; rw [h, h2, h3]; simp

noncomputable def lvlSet (o : List Int) (n : List (List Int)) (who : Int) (sf : List Bool) (m : Nat) (L : List Int) : List Bool := gfp (keptL o n who (lowM L) sf) m (List.replicate m true)
def lvlUp (r : List Bool) (l : Int) (L : List Int) : Nat → List Int
  | 0 => L
  | k + 1 => if gb r k = true ∧ gi L k < 0 then (lvlUp r l L k).set k l else lvlUp r l L k
theorem lvlUp_len (r : List Bool) (l : Int) (L : List Int) (k : Nat) : (lvlUp r l L k).length = L.length := by
  induction k with
  | zero => rfl
  | succ k ih => unfold lvlUp; split <;> simp [ih]
theorem gi_set_ne {xs : List Int} {i j : Nat} {b : Int} (h : i ≠ j) : gi (xs.set i b) j = gi xs j := by
  unfold gi
  rw [List.getD_eq_getElem?_getD, List.getD_eq_getElem?_getD, List.getElem?_set_ne h]
theorem lvlUp_at {r : List Bool} {l : Int} {L : List Int} {j : Nat} : ∀ {k : Nat}, k ≤ j → gi (lvlUp r l L k) j = gi L j
  | 0, _ => rfl
  | k + 1, h => by
    unfold lvlUp
    split
    · rw [gi_set_ne (by omega), lvlUp_at (by omega)]
    · exact lvlUp_at (by omega)
theorem lvlUp_hit {r : List Bool} {l : Int} {L : List Int} {k : Nat} (h1 : gb r k = true) (h2 : gi L k < 0) : lvlUp r l L (k + 1) = (lvlUp r l L k).set k l := by rw [lvlUp, if_pos ⟨h1, h2⟩]
theorem lvlUp_off {r : List Bool} {l : Int} {L : List Int} {k : Nat} (h : ¬ (gb r k = true ∧ gi L k < 0)) : lvlUp r l L (k + 1) = lvlUp r l L k := by rw [lvlUp, if_neg h]
theorem lvlUp_lt {r : List Bool} {l : Int} {L : List Int} {k : Nat} (hl : 0 ≤ l) (hk : k < L.length) (h1 : gb r k = true) (h2 : gi L k < 0) : negs (lvlUp r l L (k + 1)) < negs (lvlUp r l L k) := by
  rw [lvlUp_hit h1 h2]
  exact negs_set (by rw [lvlUp_len]; exact hk) (by rw [lvlUp_at (Nat.le_refl _)]; exact h2) hl
theorem lvlUp_le {r : List Bool} {l : Int} {L : List Int} (hl : 0 ≤ l) : ∀ {k : Nat}, k ≤ L.length → negs (lvlUp r l L k) ≤ negs L
  | 0, _ => Nat.le_refl _
  | k + 1, h => by
    have ih := lvlUp_le (r := r) hl (show k ≤ L.length by omega)
    by_cases e : gb r k = true ∧ gi L k < 0
    · have := lvlUp_lt hl (show k < L.length by omega) e.1 e.2
      omega
    · rw [lvlUp_off e]; exact ih
def noNew (r : List Bool) (L : List Int) (k : Nat) : Prop := ∀ j, j < k → ¬ (gb r j = true ∧ gi L j < 0)
theorem lvlUp_none {r : List Bool} {l : Int} {L : List Int} : ∀ {k : Nat}, noNew r L k → lvlUp r l L k = L
  | 0, _ => rfl
  | k + 1, h => by rw [lvlUp_off (h k (by omega)), lvlUp_none fun j hj => h j (by omega)]
noncomputable def lvls (o : List Int) (n : List (List Int)) (who : Int) (sf : List Bool) (m : Nat) : Nat → List Int
  | 0 => negL m
  | t + 1 => lvlUp (lvlSet o n who sf m (lvls o n who sf m t)) t (lvls o n who sf m t) m
theorem lvls_len (o : List Int) (n : List (List Int)) (who : Int) (sf : List Bool) (m t : Nat) : (lvls o n who sf m t).length = m := by
  induction t with
  | zero => exact negL_len m
  | succ t ih => rw [lvls, lvlUp_len, ih]
def isLvl (o : List Int) (n : List (List Int)) (who : Int) (sf : List Bool) (m : Nat) (L : List Int) : Prop := ∃ t, L = lvls o n who sf m t ∧ noNew (lvlSet o n who sf m L) L m
theorem lvls_fix {o : List Int} {n : List (List Int)} {who : Int} {sf : List Bool} {m t : Nat} (h : noNew (lvlSet o n who sf m (lvls o n who sf m t)) (lvls o n who sf m t) m) : ∀ d, lvls o n who sf m (t + d) = lvls o n who sf m t
  | 0 => rfl
  | d + 1 => by rw [← Nat.add_assoc, lvls, lvls_fix h d, lvlUp_none h]
theorem isLvl.eq {o : List Int} {n : List (List Int)} {who : Int} {sf : List Bool} {m : Nat} {r r' : List Int} (h : isLvl o n who sf m r) (h' : isLvl o n who sf m r') : r = r' := by
  obtain ⟨t, rfl, hf⟩ := h
  obtain ⟨t', rfl, hf'⟩ := h'
  rcases Nat.le_total t t' with hl | hl
  · have := lvls_fix hf (t' - t)
    rw [show t + (t' - t) = t' from by omega] at this
    exact this.symm
  · have := lvls_fix hf' (t - t')
    rw [show t' + (t - t') = t from by omega] at this
    exact this
noncomputable def lvlE (o : List Int) (n : List (List Int)) (who : Int) (sf : List Bool) (m : Nat) : List Int := @Classical.epsilon _ ⟨[]⟩ (isLvl o n who sf m)
theorem isLvl.is {o : List Int} {n : List (List Int)} {who : Int} {sf : List Bool} {m : Nat} {r : List Int} (h : isLvl o n who sf m r) : r = lvlE o n who sf m := h.eq (@Classical.epsilon_spec _ (isLvl o n who sf m) ⟨r, h⟩)
theorem isLvl.len {o : List Int} {n : List (List Int)} {who : Int} {sf : List Bool} {m : Nat} {r : List Int} (h : isLvl o n who sf m r) : r.length = m := by
  obtain ⟨t, rfl, _⟩ := h
  exact lvls_len _ _ _ _ _ _
/-- there is an end -/
theorem lvlE_ex (o : List Int) (n : List (List Int)) (who : Int) (sf : List Bool) (m : Nat) : ∃ r, isLvl o n who sf m r := by
  have key : ∀ c t, negs (lvls o n who sf m t) ≤ c → ∃ r, isLvl o n who sf m r := by
    intro c
    induction c with
    | zero =>
      intro t ht
      refine ⟨_, t, rfl, fun j hj ⟨_, h2⟩ => ?_⟩
      have := negs_set (x := 0) (by rw [lvls_len]; exact hj) h2 (Int.le_refl _)
      omega
    | succ c ih =>
      intro t ht
      by_cases e : noNew (lvlSet o n who sf m (lvls o n who sf m t)) (lvls o n who sf m t) m
      · exact ⟨_, t, rfl, e⟩
      · refine ih (t + 1) ?_
        have hx : ∃ j, j < m ∧ gb (lvlSet o n who sf m (lvls o n who sf m t)) j = true ∧ gi (lvls o n who sf m t) j < 0 := by
          refine Classical.byContradiction fun hne => e fun j hj h => hne ⟨j, hj, h⟩
        obtain ⟨j, hj, h1, h2⟩ := hx
        have hl := lvls_len o n who sf m t
        have a := lvlUp_lt (r := lvlSet o n who sf m (lvls o n who sf m t)) (l := t) (L := lvls o n who sf m t) (k := j) (by omega) (by omega) h1 h2
        have b := lvlUp_le (r := lvlSet o n who sf m (lvls o n who sf m t)) (l := (t : Int)) (L := lvls o n who sf m t) (by omega) (k := j) (by omega)
        have mono : ∀ d, j + 1 + d ≤ m → negs (lvlUp (lvlSet o n who sf m (lvls o n who sf m t)) t (lvls o n who sf m t) (j + 1 + d)) ≤ negs (lvlUp (lvlSet o n who sf m (lvls o n who sf m t)) t (lvls o n who sf m t) (j + 1)) := by
          intro d
          induction d with
          | zero => intro _; exact Nat.le_refl _
          | succ d ihd =>
            intro hd
            have := ihd (by omega)
            by_cases e2 : gb (lvlSet o n who sf m (lvls o n who sf m t)) (j + 1 + d) = true ∧ gi (lvls o n who sf m t) (j + 1 + d) < 0
            · have := lvlUp_lt (r := lvlSet o n who sf m (lvls o n who sf m t)) (l := t) (L := lvls o n who sf m t) (k := j + 1 + d) (by omega) (by omega) e2.1 e2.2
              rw [← Nat.add_assoc]; omega
            · rw [← Nat.add_assoc, lvlUp_off e2]; exact this
        have c := mono (m - (j + 1)) (by omega)
        rw [show j + 1 + (m - (j + 1)) = m by omega] at c
        rw [lvls]
        omega
  exact key _ 0 (Nat.le_refl _)
noncomputable def levelsL (o : List Int) (n : List (List Int)) (who : Int) (s : List Int) : List Int := lvlE o n who (mkM o.length s) o.length
theorem levelsL_len (o : List Int) (n : List (List Int)) (who : Int) (s : List Int) : (levelsL o n who s).length = o.length := by
  obtain ⟨r, h⟩ := lvlE_ex o n who (mkM o.length s) o.length
  unfold levelsL
  rw [← h.is]
  exact h.len
noncomputable def levelsR (o : List Int) (n : List (List Int)) (who : Int) (s : List Int) : List Int := if okA o n who s = true then levelsL o n who s else []
theorem levelsR_len (z : ArD) (who : Int) (s : List Int) : (levelsR z.1 z.2 who s).length ≤ 256 := by
  unfold levelsR
  split
  · rename_i h
    have := (fineAr_of (okA_parts h).1).2.1
    rw [levelsL_len]
    exact this
  · simp
theorem negs_neg (n : Nat) : negs (negL n) ≤ n := by
  have := negs_le (negL n)
  rw [negL_len] at this
  exact this
end Go.Proofs.Ytlmhhnplacejkaa
