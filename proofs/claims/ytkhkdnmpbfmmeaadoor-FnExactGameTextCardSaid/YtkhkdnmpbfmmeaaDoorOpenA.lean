/- How a slice of slices of int64 that came in is opened. -/
import Derived.Test.YtkhkdnmpbfmmeaaDoorOpen
import Derived.Test.YtkhkdnmpbfmmeaaDoorArenaL
namespace Go.Proofs.YtkhkdnmpbfmmeaaDoor
open Go.RowKit Go.ChangeShapes Go.WideShapes Go.ChangeAt Go.Deep

section
variable {H : Type} {enc : TypeId × Value → H} {P : Program} {w : World} {base : Nat} {spare : Nat → Bool} {held : Bool}
theorem rii_of_trod {t e e1 : TypeId} {fuel : Nat} {c : Value} {y : DataW H × List MemPlace} (ht : P.underlying t = some (.slice e)) (he : P.underlying e = some (.slice e1)) (h3 : P.underlying e1 = some (.int .i64)) (hC : P.cellsOf e = 1) (hc : P.cellsOf e1 = 1)
    (h : DataW.trod enc P w base spare held fuel t [c] = some y) : ∃ A n k xs, c = .slice A n k ∧ RII w A n k xs := by
  rcases open_slice ht h with ⟨hcs, _⟩ | ⟨a, len, cap, m, n, D, Pl, hcs, hb, hl, hm, hmm, hx, hi⟩
  · injection hcs with h1 _
    exact ⟨none, 0, 0, [], h1, rfl, ⟨by omega, by omega⟩, fun i hi => absurd hi (by omega)⟩
  · injection hcs with hcv _
    have hlm : len ≤ m := by rw [hmm]; split <;> omega
    have each : ∀ i, i < len → ∃ (p : List Int) (b off : Nat) (A1 : Option Addr) (n1 c1 : Nat), a = ⟨b, off, none⟩ ∧
        w.cell? ⟨b, off + i, none⟩ = some (.slice A1 n1 c1) ∧ RI w A1 n1 c1 p := by
      intro i hil
      obtain ⟨cs', hcl, ht'⟩ := hi i (by omega)
      rw [hC] at hcl
      obtain ⟨_, hcl', hat⟩ := World.cells?_some hcl
      match cs', hcl' with
      | [u], _ =>
        have a0 := hat 0 (by omega)
        obtain ⟨A1, m1, k1, xs, rfl, r1⟩ := ri_of_trod he h3 hc ht'
        obtain ⟨b, off, spot⟩ := a
        have hs : spot = none := by
          by_cases hz : i = 0
          · subst hz
            simpa [Addr.add] using World.cell?_spot a0
          · have h0 := hi 0 (by omega)
            obtain ⟨cs0, hc0, _⟩ := h0
            rw [hC] at hc0
            obtain ⟨_, hl0, hat0⟩ := World.cells?_some hc0
            have := hat0 0 (by omega)
            match cs0, hl0 with
            | [u0], _ => simpa [Addr.add] using World.cell?_spot this
        subst hs
        refine ⟨xs, b, off, A1, m1, k1, rfl, ?_, r1⟩
        rw [add_at, add_at] at a0
        simpa using a0
    let f : Nat → List Int := fun i => if h : i < len then (each i h).choose else []
    refine ⟨some a, len, cap, (List.range len).map f, hcv, by simp, ⟨hl, by unfold maxLen at hm; omega⟩, fun i hil => ?_⟩
    have hs := (each i hil).choose_spec
    obtain ⟨b, off, A1, n1, c1, rfl, hh⟩ := hs
    refine ⟨b, off, A1, n1, c1, rfl, ?_⟩
    have : gl ((List.range len).map f) i = (each i hil).choose := by
      rw [gl_get (by simpa using hil), List.getElem_map, List.getElem_range]
      show (if h : i < len then (each i h).choose else []) = _
      rw [dif_pos hil]
    rw [this]
    exact hh
end
end Go.Proofs.YtkhkdnmpbfmmeaaDoor
