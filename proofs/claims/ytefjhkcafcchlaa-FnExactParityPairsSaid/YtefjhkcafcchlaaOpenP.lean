/- How a slice of pairs of int64 slices that came in is opened. -/
import Derived.Test.YtefjhkcafcchlaaOpen
import Derived.Test.YtefjhkcafcchlaaPairs
namespace Go.Proofs.Ytefjhkcafcchlaa
open Go.RowKit Go.ChangeShapes Go.WideShapes Go.ChangeAt Go.Deep

section
variable {H : Type} {enc : TypeId × Value → H} {P : Program} {w : World} {base : Nat} {spare : Nat → Bool} {held : Bool}
theorem rps_of_trod {t e f1 f2 e1 : TypeId} {n1 n2 : Field} {fuel : Nat} {c : Value} {y : DataW H × List MemPlace} (ht : P.underlying t = some (.slice e)) (he : P.underlying e = some (.struct #[n1, n2]))
    (hC : P.cellsOf e = 2) (ho : (P.cellsOf n1.type = 1 ∧ P.cellsOf n2.type = 1) ∧ (n1.offset = 0 ∧ n2.offset = 1) ∧ n1.type = f1 ∧ n2.type = f2) (h1 : P.underlying f1 = some (.slice e1)) (h2 : P.underlying f2 = some (.slice e1)) (h3 : P.underlying e1 = some (.int .i64)) (hc : P.cellsOf e1 = 1)
    (h : DataW.trod enc P w base spare held fuel t [c] = some y) : ∃ A n k ps, c = .slice A n k ∧ RPS w A n k ps := by
  obtain ⟨⟨o1, o2⟩, ⟨o3, o4⟩, rfl, rfl⟩ := ho
  rcases open_slice ht h with ⟨hcs, _⟩ | ⟨a, len, cap, m, n, D, Pl, hcs, hb, hl, hm, hmm, hx, hi⟩
  · injection hcs with h1 _
    exact ⟨none, 0, 0, [], h1, rfl, ⟨by omega, by omega⟩, fun i hi => absurd hi (by omega)⟩
  · injection hcs with hcv _
    have hlm : len ≤ m := by rw [hmm]; split <;> omega
    have each : ∀ i, i < len → ∃ (p : PairD) (b off : Nat) (A1 : Option Addr) (n1 c1 : Nat) (A2 : Option Addr) (n2 c2 : Nat), a = ⟨b, off, none⟩ ∧
        w.cell? ⟨b, off + i * 2, none⟩ = some (.slice A1 n1 c1) ∧ w.cell? ⟨b, off + i * 2 + 1, none⟩ = some (.slice A2 n2 c2) ∧ RI w A1 n1 c1 p.1 ∧ RI w A2 n2 c2 p.2 := by
      intro i hil
      obtain ⟨cs', hcl, ht'⟩ := hi i (by omega)
      rw [hC] at hcl
      obtain ⟨y0, y1, m', hy, hlen, hf0, hf1⟩ := trod_struct2 he ht'
      obtain ⟨_, hcl', hat⟩ := World.cells?_some hcl
      match cs', hcl' with
      | [u, v], _ =>
        have a0 := hat 0 (by omega)
        have a1 := hat 1 (by omega)
        rw [o1, o3] at hf0
        rw [o2, o4] at hf1
        obtain ⟨A1, m1, k1, xs, rfl, r1⟩ := ri_of_trod h1 h3 hc (by simpa using hf0)
        obtain ⟨A2, m2, k2, ys, rfl, r2⟩ := ri_of_trod h2 h3 hc (by simpa using hf1)
        obtain ⟨b, off, spot⟩ := a
        have hs : spot = none := by
          by_cases hz : i = 0
          · subst hz
            simpa [Addr.add] using World.cell?_spot a0
          · have h0 := hi 0 (by omega)
            obtain ⟨cs0, hc0, _⟩ := h0
            rw [hC] at hc0
            obtain ⟨_, hl0, hat0⟩ := World.cells?_some hc0
            have := hat0 0 (by omega)
            match cs0, hl0 with
            | [u0, v0], _ => simpa [Addr.add] using World.cell?_spot this
        subst hs
        refine ⟨(xs, ys), b, off, A1, m1, k1, A2, m2, k2, rfl, ?_, ?_, r1, r2⟩
        · rw [add_at, add_at] at a0
          simpa using a0
        · rw [add_at, add_at] at a1
          simpa using a1
    let f : Nat → PairD := fun i => if h : i < len then (each i h).choose else ([], [])
    refine ⟨some a, len, cap, (List.range len).map f, hcv, by simp, ⟨hl, by unfold maxLen at hm; omega⟩, fun i hil => ?_⟩
    have hs := (each i hil).choose_spec
    obtain ⟨b, off, A1, n1, c1, A2, n2, c2, rfl, hh⟩ := hs
    refine ⟨b, off, A1, n1, c1, A2, n2, c2, rfl, ?_⟩
    have : gp ((List.range len).map f) i = (each i hil).choose := by
      rw [gp_get (by simpa using hil), List.getElem_map, List.getElem_range]
      show (if h : i < len then (each i h).choose else ([], [])) = _
      rw [dif_pos hil]
    rw [this]
    exact hh
end
end Go.Proofs.Ytefjhkcafcchlaa
