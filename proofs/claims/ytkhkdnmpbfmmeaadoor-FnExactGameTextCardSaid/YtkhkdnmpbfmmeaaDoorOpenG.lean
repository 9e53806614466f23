/- How a game that came in is opened. -/
import Derived.Test.YtkhkdnmpbfmmeaaDoorOpenA
import Derived.Test.YtkhkdnmpbfmmeaaDoorParL
namespace Go.Proofs.YtkhkdnmpbfmmeaaDoor
open Go.RowKit Go.ChangeShapes Go.WideShapes Go.ChangeAt Go.Deep

section
variable {H : Type} {enc : TypeId × Value → H} {P : Program} {w : World} {base : Nat} {spare : Nat → Bool} {held : Bool}
theorem list3 {l : List Value} (h : l.length = 3) : ∃ a b c, l = [a, b, c] := by
  match l, h with
  | [a, b, c], _ => exact ⟨a, b, c, rfl⟩
/-- a struct of a struct of two one-cell fields and a one-cell field -/
theorem open_game {r : Reach} {b0 : Nat} {t : TypeId} {f0 f1 g0 g1 : Field} {v : Value} {d : DataW H} {p : List MemPlace} (hs : P.underlying t = some (.struct #[f0, f1])) (hs0 : P.underlying f0.type = some (.struct #[g0, g1]))
    (hC : P.cellsOf t = 3 ∧ f0.offset = 0 ∧ P.cellsOf f0.type = 2 ∧ f1.offset = 2 ∧ P.cellsOf f1.type = 1 ∧ g0.offset = 0 ∧ P.cellsOf g0.type = 1 ∧ g1.offset = 1 ∧ P.cellsOf g1.type = 1)
    (hv : Value.okWide P w r b0 t v) (h : DataW.Trod enc P w base spare held t v d p) :
    ∃ (v0 v1 v2 : Value) (y0 y1 y2 : DataW H × List MemPlace) (n m : Nat), v = .agg #[v0, v1, v2] ∧
      DataW.trod enc P w base spare held n g0.type [v0] = some y0 ∧ DataW.trod enc P w base spare held n g1.type [v1] = some y1 ∧ DataW.trod enc P w base spare held m f1.type [v2] = some y2 := by
  obtain ⟨c1, c2, c3, c4, c5, c6, c7, c8, c9⟩ := hC
  obtain ⟨cs, rfl, hsz⟩ := okWide_struct hs hv
  obtain ⟨l⟩ := cs
  obtain ⟨v0, v1, v2, rfl⟩ := list3 (l := l) (by simpa using hsz.trans c1)
  obtain ⟨fuel, hf⟩ := h
  obtain ⟨y0, y1, n, hx, _, h0, h1⟩ := trod_struct2 hs hf
  simp [Value.cells, c2, c3] at h0
  simp [Value.cells, c4, c5] at h1
  obtain ⟨z0, z1, m, hx2, _, k0, k1⟩ := trod_struct2 hs0 h0
  simp [c6, c7] at k0
  simp [c8, c9] at k1
  exact ⟨v0, v1, v2, z0, z1, y1, m, n, rfl, k0, k1, h1⟩
end
end Go.Proofs.YtkhkdnmpbfmmeaaDoor
