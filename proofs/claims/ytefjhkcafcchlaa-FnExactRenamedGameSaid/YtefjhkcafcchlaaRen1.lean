/- Orders of vertices: where each stands (l14Where), the renamed game: plain. -/
import Derived.Test.YtefjhkcafcchlaaParL
import Derived.Test.YtefjhkcafcchlaaPlan
import Derived.Test.YtefjhkcafcchlaaAcc
import Derived.Test.YtefjhkcafcchlaaDraw
import Derived.Test.YtefjhkcafcchlaaOftP
import Derived.Test.YtefjhkcafcchlaaSort
namespace Go.Proofs.Ytefjhkcafcchlaa
open Go.RowKit

def whereUp (od : List Int) (n : Nat) : Nat → List Int
  | 0 => negL n
  | k + 1 => (whereUp od n k).set (gi od k).toNat (k : Int)
theorem where_len (od : List Int) (n : Nat) : ∀ k, (whereUp od n k).length = n
  | 0 => fill_len _ _
  | k + 1 => by rw [whereUp, List.length_set, where_len od n k]
abbrev goodUp (od : List Int) (n k : Nat) : Prop := ∀ j, j < k → (0 ≤ gi od j ∧ gi od j < (n : Int)) ∧ gi (whereUp od n j) (gi od j).toNat < 0
theorem goodUp_zero (od : List Int) (n : Nat) : goodUp od n 0 := fun j hj => absurd hj (by omega)
theorem goodUp_succ {od : List Int} {n k : Nat} (h : goodUp od n k) (h1 : 0 ≤ gi od k ∧ gi od k < (n : Int)) (h2 : gi (whereUp od n k) (gi od k).toNat < 0) : goodUp od n (k + 1) := fun j hj => by
  by_cases e : j = k
  · subst e; exact ⟨h1, h2⟩
  · exact h j (by omega)
theorem where_at {od : List Int} {n : Nat} : ∀ {k : Nat}, goodUp od n k → ∀ u, u < n → 0 ≤ gi (whereUp od n k) u → ∃ j, j < k ∧ gi (whereUp od n k) u = (j : Int) ∧ gi od j = (u : Int)
  | 0, _, u, hu, h0 => by
    rw [whereUp, negL, fill_at hu] at h0
    omega
  | k + 1, hg, u, hu, h0 => by
    have hk := hg k (by omega)
    have hlt : (gi od k).toNat < (whereUp od n k).length := by rw [where_len]; omega
    rw [whereUp, gi_set hlt] at h0 ⊢
    by_cases e : (gi od k).toNat = u
    · rw [if_pos e]
      exact ⟨k, by omega, rfl, by omega⟩
    · rw [if_neg e] at h0 ⊢
      obtain ⟨j, h1, h2, h3⟩ := where_at (k := k) (fun j hj => hg j (by omega)) u hu h0
      exact ⟨j, by omega, h2, h3⟩
theorem where_negs {od : List Int} {n : Nat} : ∀ {k : Nat}, goodUp od n k → negs (whereUp od n k) + k ≤ n
  | 0, _ => by
    have := negs_le (whereUp od n 0)
    rw [where_len] at this
    omega
  | k + 1, hg => by
    have hk := hg k (by omega)
    have h1 := where_negs (k := k) (fun j hj => hg j (by omega))
    have h2 := negs_set (L := whereUp od n k) (k := (gi od k).toNat) (x := (k : Int)) (by rw [where_len]; omega) hk.2 (by omega)
    rw [whereUp]
    omega
theorem where_full {od : List Int} {n : Nat} (h : goodUp od n n) {u : Nat} (hu : u < n) : 0 ≤ gi (whereUp od n n) u := by
  have h1 := where_negs h
  have h2 : negs (whereUp od n n) = 0 := by omega
  unfold negs at h2
  rw [List.countP_eq_zero] at h2
  have h3 := h2 (gi (whereUp od n n) u) (gi_mem (by rw [where_len]; exact hu))
  simpa using h3
noncomputable def orderB (od : List Int) (n : Nat) : Bool := decide (od.length = n) && decide (goodUp od n n)
noncomputable def whereR (od : List Int) (n : Nat) : List Int := if orderB od n = true then whereUp od n n else []
theorem order_len {od : List Int} {n : Nat} (h : ¬ od.length = n) : orderB od n = false := by unfold orderB; rw [decide_eq_false h]; rfl
theorem order_bad {od : List Int} {n : Nat} (h : ¬ goodUp od n n) : orderB od n = false := by unfold orderB; rw [decide_eq_false h, Bool.and_false]
theorem order_yes {od : List Int} {n : Nat} (h : od.length = n) (h2 : goodUp od n n) : orderB od n = true := by unfold orderB; rw [decide_eq_true h, decide_eq_true h2]; rfl
theorem order_parts {od : List Int} {n : Nat} (h : orderB od n = true) : od.length = n ∧ goodUp od n n := by
  unfold orderB at h
  rw [Bool.and_eq_true] at h
  exact ⟨of_decide_eq_true h.1, of_decide_eq_true h.2⟩
theorem whereR_no {od : List Int} {n : Nat} (h : orderB od n = false) : whereR od n = [] := by unfold whereR; rw [h]; rfl
theorem whereR_yes {od : List Int} {n : Nat} (h : orderB od n = true) : whereR od n = whereUp od n n := if_pos h
/-- the new successors, in the order of the old ones -/
def newNx (at_ row : List Int) : List Int := row.map fun u => gi at_ u.toNat
theorem newNx_len (at_ row : List Int) : (newNx at_ row).length = row.length := by simp [newNx]
theorem newNx_succ {at_ row : List Int} {k : Nat} (h : k < row.length) : newNx at_ (row.take (k + 1)) = newNx at_ (row.take k) ++ [gi at_ (gi row k).toNat] := by
  unfold newNx
  rw [take_gi h, List.map_append]; rfl
def renUpG (g : ParD) (od at_ : List Int) : Nat → ParD
  | 0 => ([], [], [])
  | k + 1 => addV (renUpG g od at_ k) (gi g.1 (gi od k).toNat) (gi g.2.2 (gi od k).toNat) (putsL (newNx at_ (gl g.2.1 (gi od k).toNat)))
theorem renUpG_len (g : ParD) (od at_ : List Int) : ∀ k, (renUpG g od at_ k).1.length = k ∧ (renUpG g od at_ k).2.1.length = k ∧ (renUpG g od at_ k).2.2.length = k
  | 0 => ⟨rfl, rfl, rfl⟩
  | k + 1 => by
    obtain ⟨h1, h2, h3⟩ := renUpG_len g od at_ k
    rw [renUpG]; unfold addV
    simp [h1, h2, h3]
theorem renUpG_small {g : ParD} {od at_ : List Int} {k : Nat} (h : k ≤ 256) : small (renUpG g od at_ k) := by
  obtain ⟨h1, h2, h3⟩ := renUpG_len g od at_ k
  unfold small
  refine ⟨?_, ?_, ?_⟩ <;> omega
noncomputable def okRen (g : ParD) (od : List Int) : Bool := parB g && orderB od g.2.2.length
noncomputable def renG (g : ParD) (od : List Int) : ParD := if okRen g od = true then renUpG g od (whereUp od g.2.2.length g.2.2.length) g.2.2.length else ([], [], [])
theorem okRen_no1 {g : ParD} {od : List Int} (h : parB g = false) : okRen g od = false := by unfold okRen; rw [h]; rfl
theorem okRen_no2 {g : ParD} {od : List Int} (h : orderB od g.2.2.length = false) : okRen g od = false := by unfold okRen; rw [h, Bool.and_false]
theorem okRen_yes {g : ParD} {od : List Int} (h : parB g = true) (h2 : orderB od g.2.2.length = true) : okRen g od = true := by unfold okRen; rw [h, h2]; rfl
theorem renG_no {g : ParD} {od : List Int} (h : okRen g od = false) : renG g od = ([], [], []) := by unfold renG; rw [h]; rfl
theorem renG_yes {g : ParD} {od : List Int} (h : okRen g od = true) : renG g od = renUpG g od (whereUp od g.2.2.length g.2.2.length) g.2.2.length := if_pos h
/-- distinct successors: sorted is put in one after the other -/
theorem sort_puts {xs : List Int} (h : xs.Nodup) : sortL xs = putsL xs := by
  obtain ⟨p1, p2⟩ := putsL_asc xs
  have hp : (sortL xs).Perm xs := by unfold sortL; exact List.mergeSort_perm _ _
  have hn : (sortL xs).Nodup := hp.nodup_iff.2 h
  refine asc_ext ?_ p1 fun z => by rw [sortL_mem, p2]
  have h1 := sortL_pair xs
  unfold List.Nodup at hn
  exact (h1.and hn).imp fun ⟨h2, h3⟩ => by omega
theorem newNx_nodup {od row : List Int} {n : Nat} (h : goodUp od n n) (hr : row.Pairwise (· < ·)) (hb : ∀ x, x ∈ row → 0 ≤ x ∧ x < (n : Int)) : (newNx (whereUp od n n) row).Nodup := by
  unfold newNx List.Nodup
  rw [List.pairwise_map]
  refine (hr.imp_of_mem ?_)
  intro a b ha hb2 hlt e
  have h1 := hb a ha; have h2 := hb b hb2
  obtain ⟨i, _, hi1, hi2⟩ := where_at h a.toNat (by omega) (where_full h (by omega))
  obtain ⟨j, _, hj1, hj2⟩ := where_at h b.toNat (by omega) (where_full h (by omega))
  have hij : i = j := by omega
  subst hij
  omega
theorem newNx_sort {g : ParD} {od : List Int} {v : Nat} (hg : parB g = true) (h : goodUp od g.2.2.length g.2.2.length) (hv : v < g.2.2.length) : sortL (newNx (whereUp od g.2.2.length g.2.2.length) (gl g.2.1 v)) = putsL (newNx (whereUp od g.2.2.length g.2.2.length) (gl g.2.1 v)) := by
  have hf := finePar_of hg
  have h2 := hf.1.2.2.1; have h3 := hf.2.1
  have hrow := (hf.1.2.2.2 v (by omega)).2.2
  rw [show g.1.length = g.2.2.length by omega] at hrow
  exact sort_puts (newNx_nodup h (rises_pair.1 (rises_set hrow)) fun x hx => set_mem hrow hx)
theorem ren_rows {g : ParD} {od at_ : List Int} {n : Nat} (h : ∀ v, v < n → (gl g.2.1 v).length ≤ 16) : ∀ k, (∀ j, j < k → (gi od j).toNat < n) → tot (renUpG g od at_ k).2.1 ≤ 16 * k
  | 0, _ => by simp [renUpG, tot]
  | k + 1, hod => by
    have h1 := ren_rows (od := od) (at_ := at_) h k fun j hj => hod j (by omega)
    have h2 := putsL_len (newNx at_ (gl g.2.1 (gi od k).toNat))
    rw [newNx_len] at h2
    have h3 := h _ (hod k (by omega))
    rw [renUpG]
    unfold addV tot at *
    dsimp only
    rw [List.map_append, List.sum_append]
    simp only [List.map_cons, List.map_nil, List.sum_cons, List.sum_nil]
    omega
theorem ren_tot (g : ParD) (od : List Int) : (ptot (renG g od) : Int) ≤ 1048576 := by
  cases h : okRen g od with
  | false => rw [renG_no h]; simp [ptot, artot, tot]
  | true =>
    rw [renG_yes h]
    unfold okRen at h
    rw [Bool.and_eq_true] at h
    have hf := finePar_of h.1
    obtain ⟨_, hg⟩ := order_parts h.2
    have h2 := hf.1.2.2.1; have h3 := hf.2.1; have h4 := hf.1.2.1
    obtain ⟨l1, l2, l3⟩ := renUpG_len g od (whereUp od g.2.2.length g.2.2.length) g.2.2.length
    have h5 := ren_rows (g := g) (od := od) (at_ := whereUp od g.2.2.length g.2.2.length) (n := g.2.2.length) (fun v hv => (hf.1.2.2.2 v (by omega)).2.1.2) g.2.2.length fun j hj => by have := (hg j hj).1; omega
    unfold ptot artot
    omega
end Go.Proofs.Ytefjhkcafcchlaa
