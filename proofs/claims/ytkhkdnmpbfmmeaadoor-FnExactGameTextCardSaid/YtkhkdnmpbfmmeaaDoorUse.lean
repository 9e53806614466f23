/- what a law's walk uses: marks whose changes lie between two world's ends. -/
import Derived.Test.YtkhkdnmpbfmmeaaDoorVertex
namespace Go.Proofs.YtkhkdnmpbfmmeaaDoor
open Go.RowKit

theorem eqPar_self (g : ParD) : eqPar g g = true := by simp [eqPar]
theorem Box.chg {S : Nat → Prop} {w w' : World} {b : Nat} {t : TypeId} {cs : Array Value} (h : Box w b t cs) (hc : Chg S w w') (hne : ¬ S b) : Box w' b t cs := (hc.block b h.lt hne).trans h

/-- from wb to w no block from lo up to wb's end has changed -/
def Far (lo : Nat) (wb w : World) : Prop := Chg (fun b => ¬ (lo ≤ b ∧ b < wb.heap.size)) wb w
theorem Far.refl (lo : Nat) (w : World) : Far lo w w := Chg.refl _ _
theorem Far.step {lo : Nat} {wb w w' : World} (f : Far lo wb w) (h : Below w.heap.size w w') : Far lo wb w' :=
  Chg.trans f (Chg.of_below h) (fun _ h => h) (fun x hx hs => by have := Chg.size f; omega)
theorem Far.mark {lo lo' hi' : Nat} {wb w w' : World} (f : Far lo wb w) (h : Chg (fun b => lo' ≤ b ∧ b < hi') w w') (hd : hi' ≤ lo ∨ wb.heap.size ≤ lo') : Far lo wb w' :=
  Chg.trans f h (fun _ h => h) (fun x hx hs => by omega)
theorem Far.size {lo : Nat} {wb w : World} (f : Far lo wb w) : wb.heap.size ≤ w.heap.size := Chg.size f
theorem row_hold {E : TypeId} {lo size n : Nat} {v : Value} {cs : List Value} {wb w : World} (h : wb.ownsRow lo E size v n cs) (f : Far lo wb w) : w.ownsRow lo E size v n cs := row_chg h f fun b hb hs => hs (World.ownsRow.lt h b hb)
theorem OI.hold {E : TypeId} {lo : Nat} {v : Value} {xs : List Int} {wb w : World} (h : OI E wb lo v xs) (f : Far lo wb w) : OI E w lo v xs := row_hold h f
theorem OL.hold {E : TypeId} {lo : Nat} {cs : List Value} {g : Nat → List Int} {wb w : World} (h : OL E wb lo cs g) (f : Far lo wb w) : OL E w lo cs g := fun i hi => (h i hi).hold f
theorem OAr.hold {lo : Nat} {s0 s1 : Value} {cs : List Value} {o : List Int} {n : List (List Int)} {wb w : World} (h : OAr wb lo s0 s1 cs o n) (f : Far lo wb w) : OAr w lo s0 s1 cs o n := ⟨h.1.hold f, row_hold h.2.1 f, h.2.2.hold f⟩
theorem OPar.hold {lo : Nat} {s0 s1 s2 : Value} {g : ParD} {wb w : World} (h : OPar wb lo s0 s1 s2 g) (f : Far lo wb w) : OPar w lo s0 s1 s2 g := by
  obtain ⟨cs, h1, h2, h3⟩ := h
  exact ⟨cs, h1.hold f, h2.hold f, h3⟩

theorem Chg.set3 (w : World) (b : Nat) (x0 x1 x2 : Value) : Chg (fun x => x = b) w (((w.setCell ⟨b, 0, none⟩ x0).setCell ⟨b, 1, none⟩ x1).setCell ⟨b, 2, none⟩ x2) :=
  ((Chg.set (w := w) ⟨b, 0, none⟩ x0).trans (Chg.set ⟨b, 1, none⟩ x1) (U := fun x => x = b) (fun _ h => h) (fun _ h => h)).trans (Chg.set ⟨b, 2, none⟩ x2) (U := fun x => x = b) (fun _ h => h) (fun _ h => h)
theorem Box.set3 {w : World} {b : Nat} {t : TypeId} {y0 y1 y2 : Value} (h : Box w b t #[y0, y1, y2]) (x0 x1 x2 : Value) : Box (((w.setCell ⟨b, 0, none⟩ x0).setCell ⟨b, 1, none⟩ x1).setCell ⟨b, 2, none⟩ x2) b t #[x0, x1, x2] := by
  have := ((h.set_ 0 x0).set_ 1 x1).set_ 2 x2
  simpa using this
end Go.Proofs.YtkhkdnmpbfmmeaaDoor
