/- toPairS: a copy in new memory, no block shared. -/
import Derived.Test.YtfjhkjikfjpnpaaPairs2
namespace Go.Proofs.Ytfjhkjikfjpnpaa
open Go.RowKit

/-- the j-th slice of a list of pairs laid flat -/
def fl (ps : List PairD) (j : Nat) : List Int := if j % 2 = 0 then (gp ps (j / 2)).1 else (gp ps (j / 2)).2
theorem fl_even (ps : List PairD) (k : Nat) : fl ps (k * 2) = (gp ps k).1 := by unfold fl; rw [if_pos (by omega), show k * 2 / 2 = k from by omega]
theorem fl_odd (ps : List PairD) (k : Nat) : fl ps (k * 2 + 1) = (gp ps k).2 := by unfold fl; rw [if_neg (by omega), show (k * 2 + 1) / 2 = k from by omega]
/-- a slice of pairs of the call's own: the row, and the rows in it, none shared -/
def OPS (w : World) (lo : Nat) (v : Value) (ps : List PairD) : Prop :=
  ∃ cs, w.ownsRow lo 92 2 v ps.length cs ∧ OL 2 w lo cs (fl ps) ∧ Dis cs
theorem OPS.below {w w' : World} {lo : Nat} {v : Value} {ps : List PairD} (h : OPS w lo v ps) (hb : Below w.heap.size w w') : OPS w' lo v ps := by
  obtain ⟨cs, h1, h2, h3⟩ := h
  exact ⟨cs, row_below h1 hb, h2.below hb, h3⟩
theorem OPS.form {w : World} {lo : Nat} {v : Value} {ps : List PairD} (h : OPS w lo v ps) : ∃ A c, v = .slice A ps.length c := by
  obtain ⟨cs, h1, _⟩ := h
  obtain ⟨A, c, h2, _⟩ := row_form h1
  exact ⟨A, c, h2⟩
theorem OPS.reads {w : World} {lo n c : Nat} {A : Option Addr} {ps : List PairD} (h : OPS w lo (.slice A n c) ps) : RPS w A n c ps := by
  obtain ⟨cs, h1, h2, _⟩ := h
  obtain ⟨A', c', e, hc1, hc2, hg⟩ := row_form h1
  injection e with e1 e2 e3
  subst e1; subst e2; subst e3
  refine ⟨rfl, ⟨hc1, hc2⟩, fun i hi => ?_⟩
  obtain ⟨g, rfl⟩ := hg (by omega)
  have hl := row_len h1
  have o1 := h2 (i * 2) (by omega)
  have o2 := h2 (i * 2 + 1) (by omega)
  have k1 := row_cell h1 (j := i * 2) (by omega)
  have k2 := row_cell h1 (j := i * 2 + 1) (by omega)
  rw [fl_even] at o1
  rw [fl_odd] at o2
  obtain ⟨A1, c1, e1⟩ := o1.form
  obtain ⟨A2, c2, e2⟩ := o2.form
  rw [e1] at o1 k1
  rw [e2] at o2 k2
  exact ⟨g, 0, A1, _, c1, A2, _, c2, rfl, by simpa using k1, by simpa using k2, o1.reads, o2.reads⟩

theorem infoPair : (Try.prog.info? 92).map (fun i => (i.zero, i.size, i.bytes)) = some (some (.agg #[.slice none 0 0, .slice none 0 0]), 2, 48) := by kernel_rfl
theorem made_two (n : Nat) : (madeCells (Value.agg #[.slice none 0 0, .slice none 0 0]).cells (n * 2)).toList = List.replicate (n * 2) (.slice none 0 0) := by
  refine List.ext_getElem (by simp [madeCells]) fun i h1 h2 => ?_
  simp only [madeCells, Value.cells, Array.toList_map, List.getElem_map, Array.getElem_toList, Array.getElem_range, List.getElem_replicate]
  have : i % 2 = 0 ∨ i % 2 = 1 := by omega
  rcases this with h | h <;> simp [h]

end Go.Proofs.Ytfjhkjikfjpnpaa
