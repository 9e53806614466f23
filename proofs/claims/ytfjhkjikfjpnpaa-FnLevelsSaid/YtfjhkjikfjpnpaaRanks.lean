/- Ranks towards a goal: what ranksIn and l3Ranks count. Plain. -/
import Derived.Test.YtfjhkjikfjpnpaaPlan
import Derived.Test.YtfjhkjikfjpnpaaStay
import Derived.Test.YtfjhkjikfjpnpaaAcc
namespace Go.Proofs.Ytfjhkjikfjpnpaa
open Go.RowKit

/-! ### is a vertex pulled to ranked ones -/
def pSome (ns : List Int) (ins : List Bool) (rk : List Int) : Nat → Bool
  | 0 => false
  | k + 1 => pSome ns ins rk k || (gb ins (gi ns k).toNat && decide (0 ≤ gi rk (gi ns k).toNat))
def pAll (ns : List Int) (ins : List Bool) (rk : List Int) : Nat → Bool
  | 0 => true
  | k + 1 => pAll ns ins rk k && (!gb ins (gi ns k).toNat || decide (0 ≤ gi rk (gi ns k).toNat))
def pIn (ns : List Int) (ins : List Bool) : Nat → Bool
  | 0 => false
  | k + 1 => pIn ns ins k || gb ins (gi ns k).toNat
def pulledB (o : List Int) (n : List (List Int)) (who : Int) (ins : List Bool) (rk : List Int) (v : Nat) : Bool :=
  if gi o v = who then pSome (gl n v) ins rk (gl n v).length else pIn (gl n v) ins (gl n v).length && pAll (gl n v) ins rk (gl n v).length
theorem pSome_out {ns : List Int} {ins : List Bool} {rk : List Int} {k j : Nat} (h : gi ns k = (j : Int)) (hg : gb ins j = false) : pSome ns ins rk (k + 1) = pSome ns ins rk k := by rw [pSome, h, Int.toNat_natCast, hg]; simp
theorem pAll_out {ns : List Int} {ins : List Bool} {rk : List Int} {k j : Nat} (h : gi ns k = (j : Int)) (hg : gb ins j = false) : pAll ns ins rk (k + 1) = pAll ns ins rk k := by rw [pAll, h, Int.toNat_natCast, hg]; simp
theorem pIn_at {ns : List Int} {ins : List Bool} {k j : Nat} (h : gi ns k = (j : Int)) : pIn ns ins (k + 1) = (pIn ns ins k || gb ins j) := by rw [pIn, h, Int.toNat_natCast]
theorem pSome_at {ns : List Int} {ins : List Bool} {rk : List Int} {k j : Nat} (h : gi ns k = (j : Int)) (hg : gb ins j = true) : pSome ns ins rk (k + 1) = (pSome ns ins rk k || decide (0 ≤ gi rk j)) := by rw [pSome, h, Int.toNat_natCast, hg]; simp
theorem pAll_at {ns : List Int} {ins : List Bool} {rk : List Int} {k j : Nat} (h : gi ns k = (j : Int)) (hg : gb ins j = true) : pAll ns ins rk (k + 1) = (pAll ns ins rk k && decide (0 ≤ gi rk j)) := by rw [pAll, h, Int.toNat_natCast, hg]; simp
theorem pSome_iff {ns : List Int} {ins : List Bool} {rk : List Int} : ∀ {k : Nat}, pSome ns ins rk k = true ↔ ∃ i, i < k ∧ gb ins (gi ns i).toNat = true ∧ 0 ≤ gi rk (gi ns i).toNat
  | 0 => by simp [pSome]
  | k + 1 => by
    rw [pSome, Bool.or_eq_true, pSome_iff, Bool.and_eq_true, decide_eq_true_iff]
    constructor
    · rintro (⟨i, hi, h⟩ | h)
      · exact ⟨i, by omega, h⟩
      · exact ⟨k, by omega, h⟩
    · rintro ⟨i, hi, h⟩
      by_cases e : i = k
      · subst e; exact .inr h
      · exact .inl ⟨i, by omega, h⟩
theorem pAll_iff {ns : List Int} {ins : List Bool} {rk : List Int} : ∀ {k : Nat}, pAll ns ins rk k = true ↔ ∀ i, i < k → gb ins (gi ns i).toNat = true → 0 ≤ gi rk (gi ns i).toNat
  | 0 => by simp [pAll]
  | k + 1 => by
    rw [pAll, Bool.and_eq_true, pAll_iff, Bool.or_eq_true, decide_eq_true_iff]
    constructor
    · rintro ⟨h1, h2⟩ i hi hg
      by_cases e : i = k
      · subst e
        rcases h2 with h2 | h2
        · rw [hg] at h2; cases h2
        · exact h2
      · exact h1 i (by omega) hg
    · intro h
      refine ⟨fun i hi => h i (by omega), ?_⟩
      cases hg : gb ins (gi ns k).toNat with
      | false => exact .inl rfl
      | true => exact .inr (h k (by omega) hg)
theorem pIn_iff {ns : List Int} {ins : List Bool} : ∀ {k : Nat}, pIn ns ins k = true ↔ ∃ i, i < k ∧ gb ins (gi ns i).toNat = true
  | 0 => by simp [pIn]
  | k + 1 => by
    rw [pIn, Bool.or_eq_true, pIn_iff]
    constructor
    · rintro (⟨i, hi, h⟩ | h)
      · exact ⟨i, by omega, h⟩
      · exact ⟨k, by omega, h⟩
    · rintro ⟨i, hi, h⟩
      by_cases e : i = k
      · subst e; exact .inr h
      · exact .inl ⟨i, by omega, h⟩

/-! ### a list into which the elements of a set are written -/
def hasFill (f g : Nat → Int) (xs : List Int) (j n : Nat) : List Int := fill (fun v => if hasL (xs.take j) (v : Int) = true then f v else g v) n
theorem hasFill_len (f g : Nat → Int) (xs : List Int) (j n : Nat) : (hasFill f g xs j n).length = n := fill_len _ _
theorem hasFill_zero (f g : Nat → Int) (xs : List Int) (n : Nat) : hasFill f g xs 0 n = fill g n := by
  unfold hasFill
  exact congrArg (fun h => fill h n) (funext fun v => by rw [List.take_zero, if_neg (by simp [hasL])])
theorem hasFill_step {f g : Nat → Int} {xs : List Int} {j n u : Nat} (hj : j < xs.length) (hu : gi xs j = (u : Int)) (hn : u < n) : (hasFill f g xs j n).set u (f u) = hasFill f g xs (j + 1) n := by
  refine gi_ext (by simp [hasFill_len]) fun v hv => ?_
  rw [List.length_set, hasFill_len] at hv
  rw [gi_set (by rw [hasFill_len]; exact hn)]
  unfold hasFill
  rw [fill_at hv, fill_at hv, take_gi hj, hu]
  by_cases e : u = v
  · subst e
    rw [if_pos rfl, if_pos (by simp [hasL])]
  · rw [if_neg e]
    have : hasL (xs.take j ++ [(u : Int)]) (v : Int) = hasL (xs.take j) (v : Int) := by
      unfold hasL
      refine decide_eq_decide.2 ?_
      simp only [List.mem_append, List.mem_singleton]
      constructor
      · rintro (h | h)
        · exact h
        · omega
      · exact .inl
    rw [this]
theorem hasFill_skip {f g : Nat → Int} {xs : List Int} {j n u : Nat} (hj : j < xs.length) (hu : gi xs j = (u : Int)) (hs : f u = g u) : hasFill f g xs (j + 1) n = hasFill f g xs j n := by
  unfold hasFill
  congr 1
  funext v
  rw [take_gi hj, hu]
  by_cases e : u = v
  · subst e
    rw [if_pos (by simp [hasL])]
    split
    · rfl
    · exact hs
  · have : hasL (xs.take j ++ [(u : Int)]) (v : Int) = hasL (xs.take j) (v : Int) := by
      unfold hasL
      refine decide_eq_decide.2 ?_
      simp only [List.mem_append, List.mem_singleton]
      constructor
      · rintro (h | h)
        · exact h
        · omega
      · exact .inl
    rw [this]
theorem hasFill_all {f g : Nat → Int} {xs : List Int} {n m : Nat} (h : xs.length ≤ m) : hasFill f g xs m n = fill (fun v => if hasL xs (v : Int) = true then f v else g v) n := by
  unfold hasFill
  rw [List.take_of_length_le h]

/-! ### the rounds -/
def goalF (goal : List Int) (ins : List Bool) (v : Nat) : Int := if gb ins v = true then 0 else -1
def rnk0 (ins : List Bool) (goal : List Int) (m : Nat) : List Int := fill (fun v => if hasL goal (v : Int) = true then (if gb ins v = true then 0 else -1) else -1) m
def rnkC (o : List Int) (n : List (List Int)) (who : Int) (ins : List Bool) (R : List Int) (v : Nat) : Bool := decide (gi R v < 0) && pulledB o n who ins R v
def rnkS (o : List Int) (n : List (List Int)) (who : Int) (inn : List Int) (ins : List Bool) (R : List Int) (k : Nat) (m : Nat) : List Int := fill (fun v => if hasL inn (v : Int) = true then (if rnkC o n who ins R v = true then (k : Int) else gi R v) else gi R v) m
def rnks (o : List Int) (n : List (List Int)) (who : Int) (inn goal : List Int) (m : Nat) : Nat → List Int
  | 0 => rnk0 (mkM m inn) goal m
  | k + 1 => rnkS o n who inn (mkM m inn) (rnks o n who inn goal m k) (k + 1) m
theorem rnks_len (o : List Int) (n : List (List Int)) (who : Int) (inn goal : List Int) (m k : Nat) : (rnks o n who inn goal m k).length = m := by
  cases k <;> exact fill_len _ _
/-- no vertex comes in with the next round -/
def rnkEnd (o : List Int) (n : List (List Int)) (who : Int) (inn : List Int) (R : List Int) (m : Nat) : Prop := ∀ v, v < m → hasL inn (v : Int) = true → rnkC o n who (mkM m inn) R v = false
theorem rnkS_end {o : List Int} {n : List (List Int)} {who : Int} {inn : List Int} {R : List Int} {m : Nat} (hl : R.length = m) (h : rnkEnd o n who inn R m) (k : Nat) : rnkS o n who inn (mkM m inn) R k m = R := by
  refine gi_ext (by unfold rnkS; rw [fill_len, hl]) fun v hv => ?_
  unfold rnkS at hv ⊢
  rw [fill_len] at hv
  rw [fill_at hv]
  split
  · rename_i hi
    rw [h v hv hi]; rfl
  · rfl
theorem rnkS_new {o : List Int} {n : List (List Int)} {who : Int} {inn : List Int} {R : List Int} {m : Nat} {k : Nat} (h : rnkS o n who inn (mkM m inn) R k m = R) : rnkEnd o n who inn R m := by
  intro v hv hi
  cases e : rnkC o n who (mkM m inn) R v with
  | false => rfl
  | true =>
    have h1 : gi (rnkS o n who inn (mkM m inn) R k m) v = (k : Int) := by unfold rnkS; rw [fill_at hv, if_pos hi, if_pos e]
    rw [h] at h1
    unfold rnkC at e
    rw [Bool.and_eq_true, decide_eq_true_iff] at e
    omega
def isRnk (o : List Int) (n : List (List Int)) (who : Int) (inn goal : List Int) (m : Nat) (R : List Int) : Prop := ∃ k, R = rnks o n who inn goal m k ∧ rnkEnd o n who inn R m
theorem rnks_fix {o : List Int} {n : List (List Int)} {who : Int} {inn goal : List Int} {m k : Nat} (h : rnkEnd o n who inn (rnks o n who inn goal m k) m) : ∀ d, rnks o n who inn goal m (k + d) = rnks o n who inn goal m k
  | 0 => rfl
  | d + 1 => by rw [← Nat.add_assoc, rnks, rnks_fix h d, rnkS_end (rnks_len _ _ _ _ _ _ _) h]
theorem isRnk.eq {o : List Int} {n : List (List Int)} {who : Int} {inn goal : List Int} {m : Nat} {r r' : List Int} (h : isRnk o n who inn goal m r) (h' : isRnk o n who inn goal m r') : r = r' := by
  obtain ⟨t, rfl, hf⟩ := h
  obtain ⟨t', rfl, hf'⟩ := h'
  rcases Nat.le_total t t' with hl | hl
  · have := rnks_fix hf (t' - t)
    rw [show t + (t' - t) = t' from by omega] at this
    exact this.symm
  · have := rnks_fix hf' (t - t')
    rw [show t' + (t - t') = t from by omega] at this
    exact this
noncomputable def rankE (o : List Int) (n : List (List Int)) (who : Int) (inn goal : List Int) (m : Nat) : List Int := @Classical.epsilon _ ⟨[]⟩ (isRnk o n who inn goal m)
theorem isRnk.is {o : List Int} {n : List (List Int)} {who : Int} {inn goal : List Int} {m : Nat} {r : List Int} (h : isRnk o n who inn goal m r) : r = rankE o n who inn goal m := h.eq (@Classical.epsilon_spec _ (isRnk o n who inn goal m) ⟨r, h⟩)
theorem isRnk.len {o : List Int} {n : List (List Int)} {who : Int} {inn goal : List Int} {m : Nat} {r : List Int} (h : isRnk o n who inn goal m r) : r.length = m := by
  obtain ⟨t, rfl, _⟩ := h
  exact rnks_len _ _ _ _ _ _ _

/-! ### how many have no rank -/
theorem negs_fill (f : Nat → Int) (n : Nat) : negs (fill f n) = (List.range n).countP fun v => decide (f v < 0) := by
  unfold negs fill
  rw [List.countP_map]; rfl
theorem list_fill {L : List Int} {n : Nat} (h : L.length = n) : L = fill (gi L) n := gi_ext (by rw [fill_len, h]) fun j hj => by rw [fill_at (by omega)]
theorem countP_lt {p q : Nat → Bool} {l : List Nat} (h : ∀ x, x ∈ l → q x = true → p x = true) {y : Nat} (hy : y ∈ l) (hp : p y = true) (hq : q y = false) : l.countP q < l.countP p := by
  induction l with
  | nil => cases hy
  | cons a l ih =>
    rw [List.countP_cons, List.countP_cons]
    have hle : l.countP q ≤ l.countP p := List.countP_mono_left fun x hx => h x (by simp [hx])
    rcases List.mem_cons.1 hy with rfl | hy'
    · rw [hp, hq]; simp; omega
    · have := ih (fun x hx => h x (by simp [hx])) hy'
      have h1 : (if q a = true then 1 else 0) ≤ (if p a = true then 1 else 0) := by
        have := h a (by simp)
        cases hqa : q a with
        | false => simp
        | true => rw [this hqa]; simp
      omega
theorem rnkS_negs {o : List Int} {n : List (List Int)} {who : Int} {inn : List Int} {R : List Int} {m k : Nat} (hl : R.length = m) {v : Nat} (hv : v < m) (hi : hasL inn (v : Int) = true) (hc : rnkC o n who (mkM m inn) R v = true) : negs (rnkS o n who inn (mkM m inn) R k m) < negs R := by
  unfold rnkS
  rw [negs_fill]
  conv => rhs; rw [list_fill hl, negs_fill]
  have hneg : ∀ x, rnkC o n who (mkM m inn) R x = true → gi R x < 0 := fun x h => by
    unfold rnkC at h
    rw [Bool.and_eq_true, decide_eq_true_iff] at h
    exact h.1
  refine countP_lt (fun x _ hx => ?_) (List.mem_range.2 hv) (decide_eq_true (hneg v hc)) ?_
  · rw [decide_eq_true_iff] at hx ⊢
    by_cases h1 : hasL inn (x : Int) = true
    · rw [if_pos h1] at hx
      by_cases h2 : rnkC o n who (mkM m inn) R x = true
      · exact hneg x h2
      · rw [if_neg h2] at hx; exact hx
    · rw [if_neg h1] at hx; exact hx
  · rw [if_pos hi, if_pos hc]
    exact decide_eq_false (by omega)
theorem rnkE_ex (o : List Int) (n : List (List Int)) (who : Int) (inn goal : List Int) (m : Nat) : ∃ r, isRnk o n who inn goal m r := by
  have key : ∀ c t, negs (rnks o n who inn goal m t) ≤ c → ∃ r, isRnk o n who inn goal m r := by
    intro c
    induction c with
    | zero =>
      intro t ht
      refine ⟨_, t, rfl, fun v hv hi => ?_⟩
      cases hc : rnkC o n who (mkM m inn) (rnks o n who inn goal m t) v with
      | false => rfl
      | true =>
        have := rnkS_negs (k := 0) (rnks_len o n who inn goal m t) hv hi hc
        omega
    | succ c ih =>
      intro t ht
      by_cases e : rnkEnd o n who inn (rnks o n who inn goal m t) m
      · exact ⟨_, t, rfl, e⟩
      · have hx : ∃ v, v < m ∧ hasL inn (v : Int) = true ∧ rnkC o n who (mkM m inn) (rnks o n who inn goal m t) v = true := by
          refine Classical.byContradiction fun hne => e fun v hv hi => ?_
          cases hc : rnkC o n who (mkM m inn) (rnks o n who inn goal m t) v with
          | false => rfl
          | true => exact absurd ⟨v, hv, hi, hc⟩ hne
        obtain ⟨v, hv, hi, hc⟩ := hx
        refine ih (t + 1) ?_
        have := rnkS_negs (k := t + 1) (rnks_len o n who inn goal m t) hv hi hc
        rw [rnks]
        omega
  exact key _ 0 (Nat.le_refl _)
noncomputable def ranksL (o : List Int) (n : List (List Int)) (who : Int) (inn goal : List Int) : List Int := rankE o n who inn goal o.length
theorem ranksL_is (o : List Int) (n : List (List Int)) (who : Int) (inn goal : List Int) : isRnk o n who inn goal o.length (ranksL o n who inn goal) := by
  obtain ⟨r, h⟩ := rnkE_ex o n who inn goal o.length
  unfold ranksL
  rw [← h.is]
  exact h
theorem ranksL_len (o : List Int) (n : List (List Int)) (who : Int) (inn goal : List Int) : (ranksL o n who inn goal).length = o.length := (ranksL_is o n who inn goal).len

/-! ### ranks and rounds -/
theorem rnks_top {o : List Int} {n : List (List Int)} {who : Int} {inn goal : List Int} {m : Nat} : ∀ (k v : Nat), v < m → gi (rnks o n who inn goal m k) v ≤ (k : Int) ∧ -1 ≤ gi (rnks o n who inn goal m k) v
  | 0, v, hv => by
    rw [rnks]; unfold rnk0
    rw [fill_at hv]
    split
    · split <;> omega
    · omega
  | k + 1, v, hv => by
    have ih := rnks_top (o := o) (n := n) (who := who) (inn := inn) (goal := goal) k v hv
    rw [rnks]; unfold rnkS
    rw [fill_at hv]
    split
    · split <;> omega
    · omega
/-- what has a rank below the last round had it before the round -/
theorem rnks_old {o : List Int} {n : List (List Int)} {who : Int} {inn goal : List Int} {m k v : Nat} (hv : v < m) (h : gi (rnks o n who inn goal m (k + 1)) v ≤ (k : Int)) : gi (rnks o n who inn goal m k) v = gi (rnks o n who inn goal m (k + 1)) v := by
  rw [rnks] at h ⊢
  unfold rnkS at h ⊢
  rw [fill_at hv] at h ⊢
  split at h
  · split at h
    · omega
    · rename_i h1 h2
      rw [if_pos h1, if_neg h2]
  · rename_i h1
    rw [if_neg h1]
/-- what is still without a rank was not pulled in the round before -/
theorem rnks_unpulled {o : List Int} {n : List (List Int)} {who : Int} {inn goal : List Int} {m k v : Nat} (hv : v < m) (hi : hasL inn (v : Int) = true) (h : gi (rnks o n who inn goal m (k + 1)) v < 0) : pulledB o n who (mkM m inn) (rnks o n who inn goal m k) v = false := by
  rw [rnks] at h
  unfold rnkS at h
  rw [fill_at hv, if_pos hi] at h
  split at h
  · omega
  · rename_i h1
    unfold rnkC at h1
    rw [Bool.and_eq_true, decide_eq_true_iff] at h1
    cases hc : pulledB o n who (mkM m inn) (rnks o n who inn goal m k) v with
    | false => rfl
    | true => exact absurd ⟨h, hc⟩ h1
end Go.Proofs.Ytfjhkjikfjpnpaa
