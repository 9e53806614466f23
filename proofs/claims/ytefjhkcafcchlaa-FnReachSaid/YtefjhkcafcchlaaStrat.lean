/- Plans and plays, in plain words: from where a goal can be reached the plan reaches it, from elsewhere the other one keeps away from it. No function of the program is named here. Who reaches a goal and who keeps away from it, in plain words. No function of the program is named here. -/
import Derived.Test.YtefjhkcafcchlaaOftP
import Derived.Test.YtefjhkcafcchlaaPull
import Derived.Test.YtefjhkcafcchlaaPlay3
namespace Go.Proofs.Ytefjhkcafcchlaa
open Go.RowKit

/-! ### plays -/
theorem play_in {f : Nat → Nat} {v : Nat} {st lp : List Int} (h : isPlay f v st lp) (i : Nat) : (itr f v i : Int) ∈ st ++ lp := by
  obtain ⟨k, t, hkt, rfl, rfl, he⟩ := h
  have key : ∀ i, ∃ j, j < t ∧ itr f v i = itr f v j := by
    intro i
    induction i with
    | zero => exact ⟨0, by omega, rfl⟩
    | succ i ih =>
      obtain ⟨j, hj, e⟩ := ih
      by_cases ej : j + 1 < t
      · exact ⟨j + 1, ej, by show f (itr f v i) = f (itr f v j); rw [e]⟩
      · have : j + 1 = t := by omega
        refine ⟨k, hkt, ?_⟩
        show f (itr f v i) = _
        rw [e, ← he, ← this]; rfl
  obtain ⟨j, hj, e⟩ := key i
  rw [e, List.mem_append]
  unfold itrL
  rw [List.mem_map, List.mem_map]
  by_cases hjk : j < k
  · exact .inl ⟨j, by simpa using hjk, by rw [Nat.zero_add]⟩
  · exact .inr ⟨j - k, by simp; omega, by rw [show k + (j - k) = j by omega]⟩
theorem play_all {f : Nat → Nat} {v : Nat} {st lp : List Int} (h : isPlay f v st lp) {x : Int} (hx : x ∈ st ++ lp) : ∃ i, x = (itr f v i : Int) := by
  obtain ⟨k, t, hkt, rfl, rfl, he⟩ := h
  rw [List.mem_append] at hx
  unfold itrL at hx
  rw [List.mem_map, List.mem_map] at hx
  rcases hx with ⟨i, _, e⟩ | ⟨i, _, e⟩
  · exact ⟨0 + i, e.symm⟩
  · exact ⟨k + i, e.symm⟩
theorem play_loop {f : Nat → Nat} {v : Nat} {st lp : List Int} (h : isPlay f v st lp) : ∃ a, (∀ i, (itr f v (a + i) : Int) ∈ lp) ∧ (∀ x, x ∈ lp → ∃ i, x = (itr f v (a + i) : Int)) ∧ ∀ x, x ∈ lp → ∀ j, ∃ i, j ≤ i ∧ x = (itr f v (a + i) : Int) := by
  obtain ⟨k, t, hkt, rfl, rfl, he⟩ := h
  have per : ∀ i, itr f v (k + i + (t - k)) = itr f v (k + i) := by
    intro i
    induction i with
    | zero => rw [Nat.add_zero, show k + (t - k) = t by omega]; exact he
    | succ i ih =>
      rw [show k + (i + 1) + (t - k) = k + i + (t - k) + 1 by omega]
      show f (itr f v (k + i + (t - k))) = f (itr f v (k + i))
      rw [ih]
  have perm : ∀ c i, itr f v (k + i + c * (t - k)) = itr f v (k + i) := by
    intro c
    induction c with
    | zero => intro i; rw [Nat.zero_mul, Nat.add_zero]
    | succ c ih =>
      intro i
      rw [Nat.succ_mul, show k + i + (c * (t - k) + (t - k)) = k + (i + c * (t - k)) + (t - k) by omega, per, ← ih i]
      rw [show k + (i + c * (t - k)) = k + i + c * (t - k) by omega]
  have key : ∀ i, ∃ j, j < t - k ∧ itr f v (k + i) = itr f v (k + j) := by
    intro i
    induction i with
    | zero => exact ⟨0, by omega, rfl⟩
    | succ i ih =>
      obtain ⟨j, hj, e⟩ := ih
      by_cases ej : j + 1 < t - k
      · exact ⟨j + 1, ej, by show f (itr f v (k + i)) = f (itr f v (k + j)); rw [e]⟩
      · refine ⟨0, by omega, ?_⟩
        show f (itr f v (k + i)) = _
        rw [e, Nat.add_zero, ← he, show t = k + j + 1 by omega]; rfl
  have mem : ∀ {x : Int}, x ∈ itrL f v k (t - k) ↔ ∃ i, i < t - k ∧ x = (itr f v (k + i) : Int) := by
    intro x
    unfold itrL
    rw [List.mem_map]
    constructor
    · rintro ⟨i, hi, e⟩
      exact ⟨i, by simpa using hi, e.symm⟩
    · rintro ⟨i, hi, e⟩
      exact ⟨i, by simpa using hi, e.symm⟩
  refine ⟨k, fun i => ?_, fun x hx => ?_, fun x hx j => ?_⟩
  · obtain ⟨j, hj, e⟩ := key i
    exact mem.2 ⟨j, hj, by rw [e]⟩
  · obtain ⟨i, _, e⟩ := mem.1 hx
    exact ⟨i, e⟩
  · obtain ⟨i, hi, e⟩ := mem.1 hx
    refine ⟨i + j * (t - k), ?_, ?_⟩
    · have : j * 1 ≤ j * (t - k) := Nat.mul_le_mul_left j (by omega)
      omega
    · rw [show k + (i + j * (t - k)) = k + i + j * (t - k) by omega, perm, e]

/-- the step of a play of who by p, the other one by q -/
def stepN (o : List Int) (n : List (List Int)) (who : Int) (p q : List Int) : Nat → Nat := if who = 1 then nxN o q (fullL o n who p) else nxN o (fullL o n who p) q
section
variable {o : List Int} {n : List (List Int)} {who : Int} {p q : List Int}
theorem step_is (hf : fineAr o n) (hw : 0 ≤ who ∧ who ≤ 1) (hp : fineP o n who p) (hq : fullP o n (1 - who) q) {x : Nat} (hx : x < o.length) :
    stepN o n who p q x < o.length ∧ hasL (gl n x) (stepN o n who p q x : Int) = true ∧ (gi o x = who → 0 ≤ gi p x → (stepN o n who p q x : Int) = gi p x) := by
  have hown := (hf.2.2.2 x hx).1
  have hF := fullL_full hf hp
  have e1 : gi (fullL o n who p) x = fullV o n who p x := fill_at hx
  have hmine : gi o x = who → hasL (gl n x) (gi (fullL o n who p) x) = true := (hF.2 x hx).1
  have hyours : gi o x = 1 - who → hasL (gl n x) (gi q x) = true := (hq.2 x hx).1
  have hval : gi o x = who → 0 ≤ gi p x → gi (fullL o n who p) x = gi p x := fun h h0 => by
    rw [e1]; unfold fullV; rw [if_pos h, if_pos h0]
  by_cases hm : gi o x = who
  · have hs : stepN o n who p q x = (gi (fullL o n who p) x).toNat := by
      unfold stepN nxN
      by_cases h1 : who = 1
      · rw [if_pos h1, if_neg (by omega)]
      · rw [if_neg h1, if_pos (by omega)]
    have h2 := row_has hf hx (hmine hm)
    have h3 : (stepN o n who p q x : Int) = gi (fullL o n who p) x := by rw [hs]; omega
    exact ⟨by rw [hs]; omega, by rw [h3]; exact hmine hm, fun _ h0 => by rw [h3]; exact hval hm h0⟩
  · have hy : gi o x = 1 - who := by omega
    have hs : stepN o n who p q x = (gi q x).toNat := by
      unfold stepN nxN
      by_cases h1 : who = 1
      · rw [if_pos h1, if_pos (by omega)]
      · rw [if_neg h1, if_neg (by omega)]
    have h2 := row_has hf hx (hyours hy)
    have h3 : (stepN o n who p q x : Int) = gi q x := by rw [hs]; omega
    exact ⟨by rw [hs]; omega, by rw [h3]; exact hyours hy, fun h => absurd h hm⟩
theorem itr_lt (hf : fineAr o n) (hw : 0 ≤ who ∧ who ≤ 1) (hp : fineP o n who p) (hq : fullP o n (1 - who) q) {v : Nat} (hv : v < o.length) : ∀ i, itr (stepN o n who p q) v i < o.length
  | 0 => hv
  | i + 1 => (step_is hf hw hp hq (itr_lt hf hw hp hq hv i)).1
end
theorem has_row {ns : List Int} {x : Int} (h : hasL ns x = true) : ∃ i, i < ns.length ∧ gi ns i = x := mem_gi (hasL_iff.1 h)

/-! ### first choices -/
theorem firstU_or {al : Nat → Bool} {ns : List Int} : ∀ {k : Nat}, k ≤ ns.length → (∀ j, j < k → 0 ≤ gi ns j) → firstU al ns k = -1 ∨ (0 ≤ firstU al ns k ∧ firstU al ns k ∈ ns)
  | 0, _, _ => .inl rfl
  | k + 1, hk, h => by
    rw [firstU]
    split
    · split
      · exact .inr ⟨h k (by omega), gi_mem (by omega)⟩
      · exact .inl rfl
    · rename_i h1
      exact (firstU_or (by omega) fun j hj => h j (by omega)).imp (fun e => by omega) id
section
variable {o : List Int} {n : List (List Int)} {who : Int}
theorem row_nat (hf : fineAr o n) {v : Nat} (hv : v < o.length) {j : Nat} (hj : j < (gl n v).length) : (gi (gl n v) j).toNat < o.length ∧ ((gi (gl n v) j).toNat : Int) = gi (gl n v) j := setB_nat (hf.2.2.2 v hv).2.2 hj
theorem least_fine (hf : fineAr o n) {ins : List Bool} {al : Nat → Nat → Bool} {v : Nat} (hv : v < o.length) : leastV o n who ins al v = -1 ∨ (gi o v = who ∧ hasL (gl n v) (leastV o n who ins al v) = true) := by
  unfold leastV
  split
  · rename_i h
    rcases firstU_or (al := al v) (ns := gl n v) (Nat.le_refl _) (fun j hj => by have := (row_nat hf hv hj).2; omega) with e | e
    · exact .inl e
    · exact .inr ⟨h.2, hasL_iff.2 e.2⟩
  · exact .inl rfl
theorem planL_fine (hf : fineAr o n) (ins : List Bool) (al : Nat → Nat → Bool) : fineP o n who (planL o n who ins al) :=
  ⟨fill_len _ _, fun v hv => by
    unfold planL
    rw [fill_at hv]
    exact least_fine hf hv⟩
theorem pullL_fine (hf : fineAr o n) (inn goal : List Int) : fineP o n who (pullL o n who inn goal) :=
  ⟨fill_len _ _, fun v hv => by
    unfold pullL
    rw [fill_at hv]
    unfold pullV
    split
    · rename_i h
      rcases firstU_or (al := pullA (mkM o.length inn) (ranksL o n who inn goal) v) (ns := gl n v) (Nat.le_refl _) (fun j hj => by have := (row_nat hf hv hj).2; omega) with e | e
      · exact .inl e
      · exact .inr ⟨h.2, hasL_iff.2 e.2⟩
    · exact .inl rfl⟩

/-! ### ranks -/
theorem rnks_keep {inn goal : List Int} {m k u : Nat} (hu : u < m) (h : 0 ≤ gi (rnks o n who inn goal m k) u) : ∀ d, gi (rnks o n who inn goal m (k + d)) u = gi (rnks o n who inn goal m k) u
  | 0 => rfl
  | d + 1 => by
    have ih := rnks_keep hu h d
    rw [← Nat.add_assoc, rnks]
    unfold rnkS
    rw [fill_at hu]
    split
    · rw [if_neg, ih]
      unfold rnkC
      rw [ih, decide_eq_false (by omega)]; simp
    · exact ih
theorem rank_stage {inn goal : List Int} {m k v : Nat} (hv : v < m) : ∀ {T : Nat}, gi (rnks o n who inn goal m T) v = ((k + 1 : Nat) : Int) → k + 1 ≤ T ∧ gi (rnks o n who inn goal m k) v < 0 ∧ hasL inn (v : Int) = true ∧ pulledB o n who (mkM m inn) (rnks o n who inn goal m k) v = true
  | 0, h => by
    rw [rnks] at h; unfold rnk0 at h
    rw [fill_at hv] at h
    split at h
    · split at h <;> omega
    · omega
  | T + 1, h => by
    rw [rnks] at h
    unfold rnkS at h
    rw [fill_at hv] at h
    split at h
    · rename_i hi
      split at h
      · rename_i hc
        have e : T = k := by omega
        subst e
        unfold rnkC at hc
        rw [Bool.and_eq_true] at hc
        exact ⟨Nat.le_refl _, of_decide_eq_true hc.1, hi, hc.2⟩
      · obtain ⟨h1, h2⟩ := rank_stage hv h
        exact ⟨by omega, h2⟩
    · obtain ⟨h1, h2⟩ := rank_stage hv h
      exact ⟨by omega, h2⟩
/-- one rank above another: own vertices have a successor of the rank below, of the others' all successors within lie below -/
theorem rank_step {inn goal : List Int} {k v : Nat} (hv : v < o.length) (h : gi (ranksL o n who inn goal) v = ((k + 1 : Nat) : Int)) (hf : fineAr o n) :
    (gi o v = who → ∃ i, i < (gl n v).length ∧ gb (mkM o.length inn) (gi (gl n v) i).toNat = true ∧ gi (ranksL o n who inn goal) (gi (gl n v) i).toNat = (k : Int)) ∧
    (¬ gi o v = who → ∀ i, i < (gl n v).length → gb (mkM o.length inn) (gi (gl n v) i).toNat = true → 0 ≤ gi (ranksL o n who inn goal) (gi (gl n v) i).toNat ∧ gi (ranksL o n who inn goal) (gi (gl n v) i).toNat ≤ (k : Int)) := by
  have hR := ranksL_eq o n who inn goal
  rw [hR] at h ⊢
  obtain ⟨hkT, hneg, hin, hp⟩ := rank_stage hv h
  have up : ∀ u, u < o.length → 0 ≤ gi (rnks o n who inn goal o.length k) u → gi (rnks o n who inn goal o.length o.length) u = gi (rnks o n who inn goal o.length k) u := fun u hu h0 => by
    have := rnks_keep (o := o) (n := n) (who := who) (inn := inn) (goal := goal) hu h0 (o.length - k)
    rwa [show k + (o.length - k) = o.length by omega] at this
  unfold pulledB at hp
  constructor
  · intro hown
    rw [if_pos hown] at hp
    obtain ⟨i, hi, hg, h0⟩ := pSome_iff.1 hp
    have hu := (row_nat hf hv hi).1
    refine ⟨i, hi, hg, ?_⟩
    rw [up _ hu h0]
    have htop := (rnks_top (o := o) (n := n) (who := who) (inn := inn) (goal := goal) k _ hu).1
    cases k with
    | zero => omega
    | succ k =>
      have hun := rnks_unpulled hv hin hneg
      unfold pulledB at hun
      rw [if_pos hown] at hun
      by_cases hlt : gi (rnks o n who inn goal o.length (k + 1)) (gi (gl n v) i).toNat ≤ (k : Int)
      · have hold := rnks_old hu hlt
        have : pSome (gl n v) (mkM o.length inn) (rnks o n who inn goal o.length k) (gl n v).length = true := pSome_iff.2 ⟨i, hi, hg, by rw [hold]; exact h0⟩
        rw [this] at hun; cases hun
      · omega
  · intro hown i hi hg
    rw [if_neg hown, Bool.and_eq_true] at hp
    have h0 := pAll_iff.1 hp.2 i hi hg
    have hu := (row_nat hf hv hi).1
    rw [up _ hu h0]
    exact ⟨h0, (rnks_top (o := o) (n := n) (who := who) (inn := inn) (goal := goal) k _ hu).1⟩
end
end Go.Proofs.Ytefjhkcafcchlaa
namespace Go.Proofs.Ytefjhkcafcchlaa
open Go.RowKit

theorem all_gb {m u : Nat} (hu : u < m) : gb (mkM m (allL m)) u = true := by
  rw [mkM_iff hu]
  have := gi_mem (xs := allL m) (i := u) (by rw [allL_len]; exact hu)
  rwa [gi_all hu] at this
theorem all_mem {m u : Nat} (hu : u < m) : (u : Int) ∈ allL m := (mkM_iff hu).1 (all_gb hu)
theorem other_iff {m v : Nat} {s : List Int} (hv : v < m) : (v : Int) ∈ otherL m s ↔ ¬ (v : Int) ∈ s := by
  rw [mem_other]
  constructor
  · rintro ⟨u, _, h, e⟩ hm
    have e2 : u = v := by omega
    subst e2
    exact of_decide_eq_false h hm
  · intro h
    exact ⟨v, hv, decide_eq_false h, rfl⟩
theorem itr_shift (f : Nat → Nat) (v : Nat) : ∀ i, itr f (f v) i = itr f v (i + 1)
  | 0 => rfl
  | i + 1 => by
    show f (itr f (f v) i) = f (itr f v (i + 1))
    rw [itr_shift f v i]
theorem itr_add (f : Nat → Nat) (v a : Nat) : ∀ i, itr f (itr f v a) i = itr f v (a + i)
  | 0 => rfl
  | i + 1 => by
    show f (itr f (itr f v a) i) = f (itr f v (a + i))
    rw [itr_add f v a i]

section
variable {o : List Int} {n : List (List Int)} {who : Int} {goal : List Int}
theorem attr_rank {inn : List Int} {v : Nat} (h : (v : Int) ∈ attrL o n who inn goal) : v < o.length ∧ 0 ≤ gi (ranksL o n who inn goal) v := by
  obtain ⟨u, hu, hr, e⟩ := mem_attrL.1 h
  have e2 : u = v := by omega
  subst e2
  exact ⟨hu, hr⟩
theorem row_nonneg (hf : fineAr o n) {v : Nat} (hv : v < o.length) : ∀ j, j < (gl n v).length → 0 ≤ gi (gl n v) j := fun j hj => by have := (row_nat hf hv hj).2; omega

/-! ### to reach a goal, to keep away from it -/
theorem reach_other (hf : fineAr o n) (hw : 0 ≤ who ∧ who ≤ 1) : listM (stayM o n (1 - who) (otherL o.length goal)) = otherL o.length (attrL o n who (allL o.length) goal) := by
  have nxt : ∀ v, v < o.length → ∀ i, i < (gl n v).length → (gi (gl n v) i).toNat < o.length := fun v hv i hi => (row_nat hf hv hi).1
  have sub : ∀ v : Nat, (v : Int) ∈ attrL o n who (allL o.length) goal → ¬ (v : Int) ∈ listM (stayM o n (1 - who) (otherL o.length goal)) := by
    refine attr_ind (fun v => ¬ (v : Int) ∈ listM (stayM o n (1 - who) (otherL o.length goal))) ?_ ?_
    · intro v hv hg _ hs
      exact (other_iff hv).1 (stay_sub hs) hg
    · intro v R hv _ hX hp hs
      have hsh := stay_shut o n (1 - who) (otherL o.length goal) v hv hs
      rw [mkM_eq stayM_len] at hsh
      unfold pulledB at hp
      by_cases e : gi o v = who
      · rw [if_pos e] at hp
        obtain ⟨i, hi, hg, hR⟩ := pSome_iff.1 hp
        have hy := (intoB_yours (show ¬ gi o v = 1 - who by omega)).1 hsh i hi
        exact hX _ (nxt v hv i hi) hR (mem_stay.2 hy)
      · have e' : gi o v = 1 - who := by have := (hf.2.2.2 v hv).1; omega
        rw [if_neg e, Bool.and_eq_true] at hp
        obtain ⟨i, hi, hg⟩ := (intoB_mine e').1 hsh
        exact hX _ (nxt v hv i hi) (pAll_iff.1 hp.2 i hi (all_gb (nxt v hv i hi))) (mem_stay.2 hg)
  refine rises_ext (listM_rises _) (other_rises _ _) fun x => ?_
  constructor
  · intro hx
    obtain ⟨v, hv, hg, rfl⟩ := mem_listM.1 hx
    rw [stayM_len] at hv
    exact (other_iff hv).2 fun ha => sub v ha hx
  · refine stay_sup (t := otherL o.length (attrL o n who (allL o.length) goal)) (fun x hx => set_mem (other_set _ _) hx) ?_ ?_
    · intro v hv hm
      have hna := (other_iff hv).1 hm
      by_cases e : gi o v = 1 - who
      · refine (intoB_mine e).2 (Classical.byContradiction fun hno => hna ?_)
        refine attr_pull hv (all_mem hv) ?_
        unfold pulledB
        rw [if_neg (by omega), Bool.and_eq_true]
        have hall : ∀ i, i < (gl n v).length → 0 ≤ gi (ranksL o n who (allL o.length) goal) (gi (gl n v) i).toNat := fun i hi =>
          Classical.byContradiction fun hc => hno ⟨i, hi, (mkM_iff (nxt v hv i hi)).2 ((other_iff (nxt v hv i hi)).2 fun hm' => hc (attr_rank hm').2)⟩
        have h1 := (hf.2.2.2 v hv).2.1.1
        exact ⟨pIn_iff.2 ⟨0, by omega, all_gb (nxt v hv 0 (by omega))⟩, pAll_iff.2 fun i hi _ => hall i hi⟩
      · have e' : gi o v = who := by have := (hf.2.2.2 v hv).1; omega
        refine (intoB_yours e).2 fun i hi => (mkM_iff (nxt v hv i hi)).2 ((other_iff (nxt v hv i hi)).2 fun ha => hna ?_)
        refine attr_pull hv (all_mem hv) ?_
        unfold pulledB
        rw [if_pos e']
        exact pSome_iff.2 ⟨i, hi, all_gb (nxt v hv i hi), (attr_rank ha).2⟩
    · intro x hx
      obtain ⟨v, hv, hh, rfl⟩ := mem_other.1 hx
      exact (other_iff hv).2 fun hg => of_decide_eq_false hh (attr_goal hv hg (all_mem hv))

theorem pull_step (hf : fineAr o n) (hw : 0 ≤ who ∧ who ≤ 1) {q : List Int} (hq : fullP o n (1 - who) q) {k v : Nat} (hv : v < o.length) (hk : gi (ranksL o n who (allL o.length) goal) v = ((k + 1 : Nat) : Int)) :
    ∃ k' : Nat, k' ≤ k ∧ gi (ranksL o n who (allL o.length) goal) (stepN o n who (pullL o n who (allL o.length) goal) q v) = (k' : Int) := by
  obtain ⟨h1, h2, h3⟩ := step_is hf hw (pullL_fine hf (allL o.length) goal) hq hv
  obtain ⟨r1, r2⟩ := rank_step hv hk hf
  obtain ⟨i, hi, e⟩ := has_row h2
  by_cases own : gi o v = who
  · obtain ⟨j, hj, hg, hr⟩ := r1 own
    have hval : gi (pullL o n who (allL o.length) goal) v = firstU (pullA (mkM o.length (allL o.length)) (ranksL o n who (allL o.length) goal) v) (gl n v) (gl n v).length := by
      unfold pullL
      rw [fill_at hv]
      unfold pullV
      rw [if_pos ⟨by omega, own⟩]
    have a := firstU_some (al := pullA (mkM o.length (allL o.length)) (ranksL o n who (allL o.length) goal) v) (row_nonneg hf hv) ⟨j, hj, by unfold pullA; rw [hg, hr, hk]; simp⟩
    have b := firstU_is a
    have c := h3 own (by rw [hval]; exact a)
    rw [hval] at c
    rw [← c, Int.toNat_natCast] at b
    unfold pullA at b
    rw [Bool.and_eq_true] at b
    have b2 := b.2
    rw [hk] at b2
    have b3 : gi (ranksL o n who (allL o.length) goal) (stepN o n who (pullL o n who (allL o.length) goal) q v) = ((k + 1 : Nat) : Int) - 1 := by simpa using b2
    exact ⟨k, Nat.le_refl _, by rw [b3]; omega⟩
  · have := r2 own i hi (by rw [e, Int.toNat_natCast]; exact all_gb h1)
    rw [e, Int.toNat_natCast] at this
    obtain ⟨k', hk'⟩ := Int.eq_ofNat_of_zero_le this.1
    exact ⟨k', by omega, hk'⟩
theorem reach_play (hf : fineAr o n) (hw : 0 ≤ who ∧ who ≤ 1) {q : List Int} (hq : fullP o n (1 - who) q) : ∀ (k v : Nat), v < o.length → gi (ranksL o n who (allL o.length) goal) v = (k : Int) → ∃ i, (itr (stepN o n who (pullL o n who (allL o.length) goal) q) v i : Int) ∈ goal := by
  intro k
  induction k using Nat.strongRecOn with
  | ind k ih =>
    intro v hv hk
    cases k with
    | zero => exact ⟨0, rank_zero (n := n) (who := who) (inn := allL o.length) hv hk⟩
    | succ k =>
      obtain ⟨k', hk', e⟩ := pull_step hf hw hq hv hk
      obtain ⟨i, hi⟩ := ih k' (by omega) _ (step_is hf hw (pullL_fine hf (allL o.length) goal) hq hv).1 e
      exact ⟨i + 1, by rw [← itr_shift]; exact hi⟩

theorem stay_play (hf : fineAr o n) (hw : 0 ≤ who ∧ who ≤ 1) {s q : List Int} (hq : fullP o n (1 - who) q) {v : Nat} (hv : v < o.length) (hs : gb (stayM o n who s) v = true) (i : Nat) :
    gb (stayM o n who s) (itr (stepN o n who (planL o n who (stayM o n who s) (fun _ u => gb (stayM o n who s) u)) q) v i) = true := by
  have hpf := planL_fine (who := who) hf (stayM o n who s) (fun _ u => gb (stayM o n who s) u)
  induction i with
  | zero => exact hs
  | succ i ih =>
    have hl := itr_lt hf hw hpf hq hv i
    show gb (stayM o n who s) (stepN o n who (planL o n who (stayM o n who s) (fun _ u => gb (stayM o n who s) u)) q (itr (stepN o n who (planL o n who (stayM o n who s) (fun _ u => gb (stayM o n who s) u)) q) v i)) = true
    generalize itr (stepN o n who (planL o n who (stayM o n who s) (fun _ u => gb (stayM o n who s) u)) q) v i = x at ih hl ⊢
    have hsh : intoB o n who (stayM o n who s) x = true := gfp_closed (mkM_len _ _) hl ih
    obtain ⟨h1, h2, h3⟩ := step_is hf hw hpf hq hl
    obtain ⟨j, hj, e⟩ := has_row h2
    by_cases own : gi o x = who
    · obtain ⟨j', hj', hg⟩ := (intoB_mine own).1 hsh
      have hval : gi (planL o n who (stayM o n who s) (fun _ u => gb (stayM o n who s) u)) x = firstU (fun u => gb (stayM o n who s) u) (gl n x) (gl n x).length := by
        unfold planL
        rw [fill_at hl]
        unfold leastV
        rw [if_pos ⟨ih, own⟩]
      have a := firstU_some (al := fun u => gb (stayM o n who s) u) (row_nonneg hf hl) ⟨j', hj', hg⟩
      have b := firstU_is a
      have c := h3 own (by rw [hval]; exact a)
      rw [hval] at c
      rw [← c, Int.toNat_natCast] at b
      exact b
    · have := (intoB_yours own).1 hsh j hj
      rw [e, Int.toNat_natCast] at this
      exact this

/-! ### what the law asks -/
theorem reach_won (hf : fineAr o n) (hw : 0 ≤ who ∧ who ≤ 1) {v : Nat} (hv : v < o.length) (hm : hasL (attrL o n who (allL o.length) goal) (v : Int) = true) {q st lp : List Int} (hq : fullP o n (1 - who) q) (hp : isPlay (stepN o n who (pullL o n who (allL o.length) goal) q) v st lp) : meetB goal (st ++ lp) = true := by
  obtain ⟨k, hk⟩ := Int.eq_ofNat_of_zero_le (attr_rank (hasL_iff.1 hm)).2
  obtain ⟨i, hi⟩ := reach_play hf hw hq k v hv hk
  exact decide_eq_true ⟨_, hi, play_in hp i⟩
theorem reach_lost (hf : fineAr o n) (hw : 0 ≤ who ∧ who ≤ 1) {v : Nat} (hv : v < o.length) (hm : hasL (attrL o n who (allL o.length) goal) (v : Int) = false) {q st lp : List Int} (hq : fullP o n (1 - (1 - who)) q) (hp : isPlay (stepN o n (1 - who) (planL o n (1 - who) (stayM o n (1 - who) (otherL o.length goal)) (fun _ u => gb (stayM o n (1 - who) (otherL o.length goal)) u)) q) v st lp) : meetB goal (st ++ lp) = false := by
  have h1 : (v : Int) ∈ listM (stayM o n (1 - who) (otherL o.length goal)) := by
    rw [reach_other hf hw]
    exact (other_iff hv).2 (of_decide_eq_false hm)
  refine decide_eq_false fun ⟨x, hx, hxp⟩ => ?_
  obtain ⟨i, rfl⟩ := play_all hp hxp
  have h2 := stay_play hf (show 0 ≤ 1 - who ∧ 1 - who ≤ 1 by omega) hq hv (mem_stay.1 h1) i
  have h3 := gb_lt h2
  rw [stayM_len] at h3
  exact (other_iff h3).1 (stay_sub (mem_stay.2 h2)) hx
end
end Go.Proofs.Ytefjhkcafcchlaa
