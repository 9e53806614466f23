/- Games as arguments: their size, their copy; ParityOk, topIn. -/
import Derived.Test.YtkhkdnmpbfmmeaaDoorArenaL
import Derived.Test.YtkhkdnmpbfmmeaaDoorMarks
import Derived.Test.YtkhkdnmpbfmmeaaDoorCut
namespace Go.Proofs.YtkhkdnmpbfmmeaaDoor
open Go.RowKit

section
variable {w w' : World} {s0 s1 s2 : Value} {g : ParD} {A0 A1 A2 : Option Addr} {n0 c0 n1 c1 n2 c2 : Nat}
theorem RPv.form (h : RPv w s0 s1 s2 g) : ∃ A0 n0 c0 A1 n1 c1 A2 n2 c2, s0 = .slice A0 n0 c0 ∧ s1 = .slice A1 n1 c1 ∧ s2 = .slice A2 n2 c2 := by
  obtain ⟨h1, A, m, c, e, _⟩ := h
  obtain ⟨A0, n0, c0, A1, n1, c1, e0, e1⟩ := h1.form
  exact ⟨A0, n0, c0, A1, n1, c1, A, m, c, e0, e1, e⟩
theorem RPv.ri (h : RPv w (.slice A0 n0 c0) (.slice A1 n1 c1) (.slice A2 n2 c2) g) : RI w A0 n0 c0 g.1 := h.1.ri
theorem RPv.rii (h : RPv w (.slice A0 n0 c0) (.slice A1 n1 c1) (.slice A2 n2 c2) g) : RII w A1 n1 c1 g.2.1 := h.1.rii
theorem RPv.rp (h : RPv w (.slice A0 n0 c0) (.slice A1 n1 c1) (.slice A2 n2 c2) g) : RI w A2 n2 c2 g.2.2 := by
  obtain ⟨_, A, m, c, e, hr⟩ := h
  injection e with e1 e2 e3
  subst e1; subst e2; subst e3
  exact hr
theorem RPv.of (h : RI w A0 n0 c0 g.1) (k : RII w A1 n1 c1 g.2.1) (l : RI w A2 n2 c2 g.2.2) : RPv w (.slice A0 n0 c0) (.slice A1 n1 c1) (.slice A2 n2 c2) g := ⟨RAv.of h k, _, _, _, rfl, l⟩
end
/-- what the walks ask of a game in order -/
def finePar (g : ParD) : Prop := fineAr g.1 g.2.1 ∧ g.2.2.length = g.1.length ∧ ∀ i, i < g.2.2.length → 0 ≤ gi g.2.2 i ∧ gi g.2.2 i ≤ 40
theorem OPar.join {wC wF : World} {lo loC : Nat} {v0 v1 v2 : Value} {g : ParD} (h : OArn wC loC v0 v1 (g.1, g.2.1)) (f : Far loC wC wF) (h1 : OI 2 wF lo v2 g.2.2) (hlo : lo ≤ loC) (hap : ∀ b, v2.ownBlock = some b → b < loC ∨ wC.heap.size ≤ b) : OPar wF lo v0 v1 v2 g := by
  obtain ⟨cs, h, hd⟩ := h
  have hx : ∀ u, (∀ b, u.ownBlock = some b → loC ≤ b ∧ b < wC.heap.size) → Apart u v2 := fun u hu => by
    unfold Apart
    cases e : u.ownBlock with
    | none => exact .inl rfl
    | some b =>
      right
      intro e2
      have := hu b e
      have := hap b e2.symm
      omega
  refine ⟨cs, (h.hold f).more hlo, h1, Dis.cons (Dis.cons hd.tail fun i hi => (hx _ (h.2.2.lt i hi)).symm) fun i hi => ?_⟩
  cases i with
  | zero => exact hx _ h.1.lt
  | succ i =>
    have hi' : i < cs.length := by simpa using hi
    have := hd 0 (i + 1) (by simp) (by simpa using hi') (by omega)
    simpa [gv] using this
theorem Chg.one {w : World} (b i : Nat) (u : Value) : Chg (fun x => x = b) w (w.setCell ⟨b, i, none⟩ u) := Chg.set ⟨b, i, none⟩ u
theorem OArn.chgF {S : Nat → Prop} {w w' : World} {lo : Nat} {s0 s1 : Value} {z : ArD} (h : OArn w lo s0 s1 z) (hc : Chg S w w') (hS : ∀ b, S b → b < lo) : OArn w' lo s0 s1 z := by
  obtain ⟨cs, h1, h2⟩ := h
  exact ⟨cs, h1.chg hc hS, h2⟩
end Go.Proofs.YtkhkdnmpbfmmeaaDoor
