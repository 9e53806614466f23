/- JoinedGame: what it is; spec. JoinedGame: impl. -/
import Derived.Test.YtngadlpfheakiaaCopyP
import Derived.Test.YtngadlpfheakiaaGame2
import Derived.Test.YtngadlpfheakiaaMore
import Derived.Test.YtngadlpfheakiaaPlan
import Derived.Test.YtngadlpfheakiaaAttr
import Derived.Test.YtngadlpfheakiaaHand
import Derived.Test.YtngadlpfheakiaaApp
import Derived.Deep.RegionHeld3
import Derived.StillTailTactics
import Derived.Test.YtngadlpfheakiaaVertex
import Derived.Test.YtngadlpfheakiaaParL
namespace Go.Proofs.Ytngadlpfheakiaa
open Go.RowKit

def shift (d : Nat) (xs : List Int) : List Int := xs.map (· + (d : Int))
end Go.Proofs.Ytngadlpfheakiaa
namespace Go.Proofs.Ytngadlpfheakiaa
open Go.RowKit

/-- a row's block is no box of another type -/
theorem row_box {E t : TypeId} {w : World} {lo size n b : Nat} {v : Value} {cs : List Value} {xs : Array Value} (h : w.ownsRow lo E size v n cs) (hb : Box w b t xs) (hne : E ≠ t) : v.ownBlock ≠ some b := by
  intro hv
  rcases h.2 with ⟨rfl, _⟩ | ⟨g, cap, cur, rfl, _, h3, _⟩
  · simp [Value.ownBlock] at hv
  · simp [Value.ownBlock] at hv
    subst hv
    unfold Box at hb
    rw [hb] at h3
    injection h3 with h3
    injection h3 with _ e
    exact hne e.symm
theorem OPar.chgBox {w w' : World} {lo b : Nat} {t : TypeId} {xs : Array Value} {s0 s1 s2 : Value} {g : ParD} (h : OPar w lo s0 s1 s2 g) (hb : Box w b t xs) (h1 : 2 ≠ t) (h2 : 27 ≠ t) (hc : Chg (fun x => x = b) w w') : OPar w' lo s0 s1 s2 g := by
  obtain ⟨cs, ⟨k0, k1, k2⟩, k3, k4⟩ := h
  have no : ∀ {v : Value} {xs : List Int}, OI 2 w lo v xs → ∀ z, v.ownBlock = some z → ¬ z = b := fun ho z hz e => row_box ho hb h1 (by rw [hz, e])
  exact ⟨cs, ⟨k0.chg hc (no k0), row_chg k1 hc (fun z hz e => row_box k1 hb h2 (by rw [hz, e])), fun i hi => (k2 i hi).chg hc (no (k2 i hi))⟩, k3.chg hc (no k3), k4⟩
theorem OPar.noBox {w : World} {lo b : Nat} {t : TypeId} {xs : Array Value} {s0 s1 s2 : Value} {g : ParD} (h : OPar w lo s0 s1 s2 g) (hb : Box w b t xs) (h1 : 2 ≠ t) (h2 : 27 ≠ t) : ¬ (s0.ownBlock = some b ∨ s1.ownBlock = some b ∨ s2.ownBlock = some b) := by
  obtain ⟨cs, ⟨k0, k1, k2⟩, k3, k4⟩ := h
  rintro (h | h | h)
  · exact row_box k0 hb h1 h
  · exact row_box k1 hb h2 h
  · exact row_box k3 hb h1 h
/-- a game that grows in the box bg, its rows older or younger than the box; the result's box br is empty yet -/
def GSy (lo : Nat) (w0 wr : World) (br bg : Nat) (s0 s1 s2 : Value) (g : ParD) : Prop :=
  Below w0.heap.size w0 wr ∧ (w0.heap.size ≤ br ∧ br < lo ∧ lo ≤ bg ∧ lo ≤ wr.heap.size) ∧ Box wr br 32 #[.slice none 0 0, .slice none 0 0, .slice none 0 0] ∧ Box wr bg 32 #[s0, s1, s2] ∧ OPar wr lo s0 s1 s2 g
section
variable {lo br bg : Nat} {w0 wr w : World} {s0 s1 s2 t0 t1 t2 : Value} {g g' : ParD}
theorem GSy.below (h : GSy lo w0 wr br bg s0 s1 s2 g) : Below w0.heap.size w0 wr := h.1
theorem GSy.ord (h : GSy lo w0 wr br bg s0 s1 s2 g) : w0.heap.size ≤ br ∧ br < lo ∧ lo ≤ bg ∧ lo ≤ wr.heap.size := h.2.1
theorem GSy.zero (h : GSy lo w0 wr br bg s0 s1 s2 g) : Box wr br 32 #[.slice none 0 0, .slice none 0 0, .slice none 0 0] := h.2.2.1
theorem GSy.box (h : GSy lo w0 wr br bg s0 s1 s2 g) : Box wr bg 32 #[s0, s1, s2] := h.2.2.2.1
theorem GSy.own (h : GSy lo w0 wr br bg s0 s1 s2 g) : OPar wr lo s0 s1 s2 g := h.2.2.2.2
theorem GSy.move (h : GSy lo w0 wr br bg s0 s1 s2 g) (hb : Below wr.heap.size wr w) : GSy lo w0 w br bg s0 s1 s2 g :=
  ⟨below_then hb h.1.size h.1, ⟨h.ord.1, h.ord.2.1, h.ord.2.2.1, Nat.le_trans h.ord.2.2.2 hb.size⟩, h.zero.on hb, h.box.on hb, h.own.below hb⟩
theorem ne_par : 2 ≠ 32 := by decide
theorem ne_par2 : 27 ≠ 32 := by decide
theorem GSy.start (hw : Below w0.heap.size w0 w) (hb : w0.heap.size ≤ br) (hbr : br < lo) (hlo : lo ≤ w.heap.size) (hz : Box w br 32 #[.slice none 0 0, .slice none 0 0, .slice none 0 0]) (ho : OPar w lo s0 s1 s2 g) :
    GSy lo w0 (w.alloc (.cells #[s0, s1, s2] 32)) br w.heap.size s0 s1 s2 g := by
  have hba : Below w.heap.size w (w.alloc (.cells #[s0, s1, s2] 32)) := below_alloc (Nat.le_refl _) (Below.refl _ _)
  exact ⟨below_then hba hw.size hw, ⟨hb, hbr, hlo, Nat.le_trans hlo hba.size⟩, hz.alloc _, Box.new w 32 #[s0, s1, s2], ho.below hba⟩
theorem GSy.store {wz : World} (h : GSy lo w0 wr br bg s0 s1 s2 g) (hz : Below wr.heap.size wr wz) (hb : Below lo wz w) (hc : Chg (fun b => s0.ownBlock = some b ∨ s1.ownBlock = some b ∨ s2.ownBlock = some b) wz w) (ho : OPar w lo t0 t1 t2 g') :
    Box w bg 32 #[s0, s1, s2] ∧ GSy lo w0 (((w.setCell ⟨bg, 0, none⟩ t0).setCell ⟨bg, 1, none⟩ t1).setCell ⟨bg, 2, none⟩ t2) br bg t0 t1 t2 g' := by
  have h2 := h.move hz
  have od := h2.ord
  have bx : Box w bg 32 #[s0, s1, s2] := (hc.block bg h2.box.lt (h2.own.noBox h2.box ne_par ne_par2)).trans h2.box
  have ch := Chg.set3 w bg t0 t1 t2
  refine ⟨bx, ?_, ⟨od.1, od.2.1, od.2.2.1, by have := hb.size; have := ch.size; omega⟩, (h2.zero.below hb (by omega)).far3 (by omega) _ _ _, bx.set3 _ _ _, ho.chgBox bx ne_par ne_par2 ch⟩
  exact (h2.1.trans (hb.mono (by omega))).trans (ch.below (by have := hb.size; omega) (fun x hx => by omega))
theorem GSy.fin (h : GSy lo w0 wr br bg s0 s1 s2 g) : OPar (((wr.setCell ⟨br, 0, none⟩ s0).setCell ⟨br, 1, none⟩ s1).setCell ⟨br, 2, none⟩ s2) lo s0 s1 s2 g ∧
    Below w0.heap.size w0 (((wr.setCell ⟨br, 0, none⟩ s0).setCell ⟨br, 1, none⟩ s1).setCell ⟨br, 2, none⟩ s2) ∧
    Box (((wr.setCell ⟨br, 0, none⟩ s0).setCell ⟨br, 1, none⟩ s1).setCell ⟨br, 2, none⟩ s2) br 32 #[s0, s1, s2] := by
  have ch := Chg.set3 wr br s0 s1 s2
  have od := h.ord
  exact ⟨h.own.chg ch (fun x hx => by omega), h.1.trans (ch.below h.1.size (fun x hx => by omega)), h.zero.set3 _ _ _⟩
end


end Go.Proofs.Ytngadlpfheakiaa
