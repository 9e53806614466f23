/- Structs of two []int64 fields: how they read, rows of the call's own. -/
import Derived.Test.YtkhkdnmpbfmmeaaDoorFn4
import Derived.Test.YtkhkdnmpbfmmeaaDoorUse
namespace Go.Proofs.YtkhkdnmpbfmmeaaDoor
open Go.RowKit

abbrev TwoD := List Int × List Int
def RTv (w : World) (s0 s1 : Value) (z : TwoD) : Prop := RIv w s0 z.1 ∧ RIv w s1 z.2
def OT (w : World) (lo : Nat) (s0 s1 : Value) (z : TwoD) : Prop := OI 2 w lo s0 z.1 ∧ OI 2 w lo s1 z.2 ∧ Apart s0 s1
section
variable {w w' wb : World} {lo lo' : Nat} {s0 s1 : Value} {z : TwoD} {A0 A1 : Option Addr} {n0 c0 n1 c1 : Nat}
theorem RTv.keep (h : RTv w s0 s1 z) (k : Keeps w w') : RTv w' s0 s1 z := ⟨h.1.keep k, h.2.keep k⟩
theorem RTv.form (h : RTv w s0 s1 z) : ∃ A0 n0 c0 A1 n1 c1, s0 = .slice A0 n0 c0 ∧ s1 = .slice A1 n1 c1 := by
  obtain ⟨⟨A, m, c, e, _⟩, A', m', c', e', _⟩ := h
  exact ⟨A, m, c, A', m', c', e, e'⟩
theorem RTv.r1 (h : RTv w (.slice A0 n0 c0) (.slice A1 n1 c1) z) : RI w A0 n0 c0 z.1 := by
  obtain ⟨⟨A, m, c, e, hr⟩, _⟩ := h
  injection e with e1 e2 e3
  subst e1; subst e2; subst e3
  exact hr
theorem RTv.r2 (h : RTv w (.slice A0 n0 c0) (.slice A1 n1 c1) z) : RI w A1 n1 c1 z.2 := by
  obtain ⟨_, A, m, c, e, hr⟩ := h
  injection e with e1 e2 e3
  subst e1; subst e2; subst e3
  exact hr
theorem RTv.of (h : RI w A0 n0 c0 z.1) (k : RI w A1 n1 c1 z.2) : RTv w (.slice A0 n0 c0) (.slice A1 n1 c1) z := ⟨⟨_, _, _, rfl, h⟩, _, _, _, rfl, k⟩
theorem OT.form (h : OT w lo s0 s1 z) : ∃ A0 c0 A1 c1, s0 = .slice A0 z.1.length c0 ∧ s1 = .slice A1 z.2.length c1 := by
  obtain ⟨A0, c0, e0⟩ := h.1.form
  obtain ⟨A1, c1, e1⟩ := h.2.1.form
  exact ⟨A0, c0, A1, c1, e0, e1⟩
theorem OT.reads (h : OT w lo s0 s1 z) : RTv w s0 s1 z := ⟨h.1.rv, h.2.1.rv⟩
theorem OT.hold (h : OT wb lo s0 s1 z) (f : Far lo wb w) : OT w lo s0 s1 z := ⟨h.1.hold f, h.2.1.hold f, h.2.2⟩
theorem OT.below (h : OT w lo s0 s1 z) (hb : Below w.heap.size w w') : OT w' lo s0 s1 z := ⟨h.1.below hb, h.2.1.below hb, h.2.2⟩
theorem OT.more (h : OT w lo s0 s1 z) (hl : lo' ≤ lo) : OT w lo' s0 s1 z := ⟨h.1.more hl, h.2.1.more hl, h.2.2⟩
theorem OT.nil (w : World) (lo : Nat) : OT w lo (.slice none 0 0) (.slice none 0 0) ([], []) := ⟨OI.nil _ _ _, OI.nil _ _ _, .inl rfl⟩
end
end Go.Proofs.YtkhkdnmpbfmmeaaDoor
