/- Arenas at the law's border: sz, to, mark, held, eq; rows of an arena of the call's own. -/
import Derived.Test.YtkhkdnmpbfmmeaaDoorArena
import Derived.Test.YtkhkdnmpbfmmeaaDoorUse
import Derived.Test.YtkhkdnmpbfmmeaaDoorFn4
import Derived.Deep.OwnRows
namespace Go.Proofs.YtkhkdnmpbfmmeaaDoor
open Go.RowKit

theorem RAv.ri {w : World} {A0 A1 : Option Addr} {n0 c0 n1 c1 : Nat} {o : List Int} {n : List (List Int)} (h : RAv w (.slice A0 n0 c0) (.slice A1 n1 c1) o n) : RI w A0 n0 c0 o := by
  obtain ⟨⟨A, m, c, e, hr⟩, _⟩ := h
  injection e with e1 e2 e3
  subst e1; subst e2; subst e3
  exact hr
theorem RAv.rii {w : World} {A0 A1 : Option Addr} {n0 c0 n1 c1 : Nat} {o : List Int} {n : List (List Int)} (h : RAv w (.slice A0 n0 c0) (.slice A1 n1 c1) o n) : RII w A1 n1 c1 n := by
  obtain ⟨_, A, m, c, e, hr⟩ := h
  injection e with e1 e2 e3
  subst e1; subst e2; subst e3
  exact hr
theorem RAv.form {w : World} {s0 s1 : Value} {o : List Int} {n : List (List Int)} (h : RAv w s0 s1 o n) : ∃ A0 n0 c0 A1 n1 c1, s0 = .slice A0 n0 c0 ∧ s1 = .slice A1 n1 c1 := by
  obtain ⟨⟨A, m, c, e, _⟩, A', m', c', e', _⟩ := h
  exact ⟨A, m, c, A', m', c', e, e'⟩
theorem RAv.of {w : World} {A0 A1 : Option Addr} {n0 c0 n1 c1 : Nat} {o : List Int} {n : List (List Int)} (h : RI w A0 n0 c0 o) (k : RII w A1 n1 c1 n) : RAv w (.slice A0 n0 c0) (.slice A1 n1 c1) o n := ⟨⟨_, _, _, rfl, h⟩, _, _, _, rfl, k⟩
/-- an arena of the call's own -/
def OArn (w : World) (lo : Nat) (s0 s1 : Value) (z : ArD) : Prop := ∃ cs, OAr w lo s0 s1 cs z.1 z.2 ∧ Dis (s0 :: cs)
section
variable {w w' wb : World} {lo lo' : Nat} {s0 s1 : Value} {z : ArD}
theorem OArn.form (h : OArn w lo s0 s1 z) : ∃ A0 c0 A1 c1, s0 = .slice A0 z.1.length c0 ∧ s1 = .slice A1 z.2.length c1 := by
  obtain ⟨cs, ⟨h0, h1, _⟩, _⟩ := h
  obtain ⟨A0, c0, e0⟩ := h0.form
  obtain ⟨A1, c1, e1, _⟩ := row_form h1
  exact ⟨A0, c0, A1, c1, e0, e1⟩
theorem OArn.reads (h : OArn w lo s0 s1 z) : RAv w s0 s1 z.1 z.2 := by
  obtain ⟨cs, h, _⟩ := h
  exact h.reads
theorem OArn.hold (h : OArn wb lo s0 s1 z) (f : Far lo wb w) : OArn w lo s0 s1 z := by
  obtain ⟨cs, h, hd⟩ := h
  exact ⟨cs, h.hold f, hd⟩
theorem OArn.below (h : OArn w lo s0 s1 z) (hb : Below w.heap.size w w') : OArn w' lo s0 s1 z := by
  obtain ⟨cs, h, hd⟩ := h
  exact ⟨cs, h.below hb, hd⟩
theorem OArn.more (h : OArn w lo s0 s1 z) (hl : lo' ≤ lo) : OArn w lo' s0 s1 z := by
  obtain ⟨cs, h, hd⟩ := h
  exact ⟨cs, h.more hl, hd⟩
end

/-! ### sizes -/
/-! ### copies -/
end Go.Proofs.YtkhkdnmpbfmmeaaDoor
