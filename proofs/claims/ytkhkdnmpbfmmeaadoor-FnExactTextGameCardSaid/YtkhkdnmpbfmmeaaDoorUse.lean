/- what a law's walk uses: marks whose changes lie between two world's ends. -/
import Derived.Test.YtkhkdnmpbfmmeaaDoorVertex
namespace Go.Proofs.YtkhkdnmpbfmmeaaDoor
open Go.RowKit

theorem eqPar_self (g : ParD) : eqPar g g = true := by simp [eqPar]
theorem Box.chg {S : Nat → Prop} {w w' : World} {b : Nat} {t : TypeId} {cs : Array Value} (h : Box w b t cs) (hc : Chg S w w') (hne : ¬ S b) : Box w' b t cs := (hc.block b h.lt hne).trans h

/-- from wb to w no block from lo up to wb's end has changed -/
def Far (lo : Nat) (wb w : World) : Prop := Chg (fun b => ¬ (lo ≤ b ∧ b < wb.heap.size)) wb w
theorem Far.refl (lo : Nat) (w : World) : Far lo w w := Chg.refl _ _
theorem Far.step {lo : Nat} {wb w w' : World} (f : Far lo wb w) (h : Below w.heap.size w w') : Far lo wb w' :=
  Chg.trans f (Chg.of_below h) (fun _ h => h) (fun x hx hs => by have := Chg.size f; omega)
theorem Far.mark {lo lo' hi' : Nat} {wb w w' : World} (f : Far lo wb w) (h : Chg (fun b => lo' ≤ b ∧ b < hi') w w') (hd : hi' ≤ lo ∨ wb.heap.size ≤ lo') : Far lo wb w' :=
  Chg.trans f h (fun _ h => h) (fun x hx hs => by omega)
theorem Far.size {lo : Nat} {wb w : World} (f : Far lo wb w) : wb.heap.size ≤ w.heap.size := Chg.size f
theorem row_hold {E : TypeId} {lo size n : Nat} {v : Value} {cs : List Value} {wb w : World} (h : wb.ownsRow lo E size v n cs) (f : Far lo wb w) : w.ownsRow lo E size v n cs := row_chg h f fun b hb hs => hs (World.ownsRow.lt h b hb)
theorem OI.hold {E : TypeId} {lo : Nat} {v : Value} {xs : List Int} {wb w : World} (h : OI E wb lo v xs) (f : Far lo wb w) : OI E w lo v xs := row_hold h f
theorem OL.hold {E : TypeId} {lo : Nat} {cs : List Value} {g : Nat → List Int} {wb w : World} (h : OL E wb lo cs g) (f : Far lo wb w) : OL E w lo cs g := fun i hi => (h i hi).hold f
theorem OAr.hold {lo : Nat} {s0 s1 : Value} {cs : List Value} {o : List Int} {n : List (List Int)} {wb w : World} (h : OAr wb lo s0 s1 cs o n) (f : Far lo wb w) : OAr w lo s0 s1 cs o n := ⟨h.1.hold f, row_hold h.2.1 f, h.2.2.hold f⟩
theorem OPar.hold {lo : Nat} {s0 s1 s2 : Value} {g : ParD} {wb w : World} (h : OPar wb lo s0 s1 s2 g) (f : Far lo wb w) : OPar w lo s0 s1 s2 g := by
  obtain ⟨cs, h1, h2, h3⟩ := h
  exact ⟨cs, h1.hold f, h2.hold f, h3⟩

set_option maxHeartbeats 400000 in
theorem markParityU (s0 s1 s2 : Value) (g : ParD) (k : Int) (w : World) (lo : Nat) (wb : World) (hlo : lo ≤ wb.heap.size) (ho : OPar wb lo s0 s1 s2 g) (hb : Far lo wb w) (hk0 : 0 ≤ k) (hk1 : k + ptot g ≤ 4611686018427387904) :
    Calls Tryd.prog 40 #[.agg #[s0, s1, s2], .int .i64 k] w fun e w' => e = .returned (.int .i64 (k + ptot g)) ∧ OPar w' lo s0 s1 s2 (pm k g) ∧ Chg (fun b => lo ≤ b ∧ b < wb.heap.size) w w' := by
  have ho' := ho
  obtain ⟨A0, c0, A1, c1, A2, c2, rfl, rfl, rfl⟩ := ho'.form
  obtain ⟨cs, h1, h2, h3⟩ := ho
  unfold ptot at *
  have hbs := hb.size
  have hbw : Far lo wb (w.alloc (.cells #[.slice A0 g.1.length c0, .slice A1 g.2.1.length c1, .slice A2 g.2.2.length c2] 54)) := hb.step (below_alloc (Nat.le_refl _) (Below.refl _ _))
  have l1 : (w.alloc (.cells #[.slice A0 g.1.length c0, .slice A1 g.2.1.length c1, .slice A2 g.2.2.length c2] 54)).cell? ⟨w.heap.size, 2, none⟩ = some (.slice A2 g.2.2.length c2) := by simp [go_sem]
  have hS : ∀ b, ((Value.slice A0 g.1.length c0).ownBlock = some b ∨ InL cs b) → lo ≤ b ∧ b < wb.heap.size := by
    rintro b (hb | ⟨i, hi, hb⟩)
    · exact h1.1.lt b hb
    · exact h1.2.2.lt i hi b hb
  have h2' := h2.hold hbw
  have hap : ∀ b, ((Value.slice A0 g.1.length c0).ownBlock = some b ∨ InL cs b) → ¬ (Value.slice A2 g.2.2.length c2).ownBlock = some b := by
    rintro b (hb | ⟨i, hi, hb⟩) hs
    · have := h3 0 1 (by simp) (by simp) (by omega)
      exact apart_not (u := .slice A0 g.1.length c0) (v := .slice A2 g.2.2.length c2) this hb hs
    · exact apart_not (h3.tail.head hi) hs hb
  go_enter Tryd.func40, Tryd.ntmps40
  go_wp2_with fail
  refine (markArena _ _ _ _ _ _ _ _ (by simp; omega) (h1.hold hbw) h3.skip hk0 (by omega)).mono ?_; rintro e w1 ⟨rfl, ho1, hc1⟩
  have l1' : w1.cell? ⟨w.heap.size, 2, none⟩ = some (.slice A2 g.2.2.length c2) := (World.cell?_of_block (hc1.block _ (by simp) (fun hs => by have := (hS _ hs).2; simp at this; omega))).trans l1
  have ho2 := h2'.chg hc1 (fun b hb hs => hap b hs hb)
  go_wp2_with fail
  refine (markInts _ _ _ _ _ _ _ ho2 (by omega) (by omega)).mono ?_; rintro e w2 ⟨rfl, ho3, hg3⟩
  have hc3 := Chg.of_grown hg3
  have hr3 := row_chg ho1.2.1 hc3 (fun b hb hs => own_ne ho2 ho1.2.1 (by decide) b hs hb)
  have h03 := ho1.1.chg hc3 (fun b hb hs => hap b (.inl hb) hs)
  have hl3 : OL 2 w2 lo cs (gl (mkL (k + g.1.length) g.2.1)) := fun i hi => (ho1.2.2 i hi).chg hc3 (fun b hb hs => hap b (.inr ⟨i, hi, hb⟩) hs)
  go_wp2
  go_ret
  refine ⟨ret_i (by omega), ⟨cs, ⟨h03, hr3, hl3⟩, ho3, h3⟩, ?_⟩
  exact (((Chg.refl _ _).alloc _).trans hc1 (fun x h => h) hS).trans hc3 (fun x h => h) (fun x h => h2.lt x h)

theorem Chg.set3 (w : World) (b : Nat) (x0 x1 x2 : Value) : Chg (fun x => x = b) w (((w.setCell ⟨b, 0, none⟩ x0).setCell ⟨b, 1, none⟩ x1).setCell ⟨b, 2, none⟩ x2) :=
  ((Chg.set (w := w) ⟨b, 0, none⟩ x0).trans (Chg.set ⟨b, 1, none⟩ x1) (U := fun x => x = b) (fun _ h => h) (fun _ h => h)).trans (Chg.set ⟨b, 2, none⟩ x2) (U := fun x => x = b) (fun _ h => h) (fun _ h => h)
theorem Box.set3 {w : World} {b : Nat} {t : TypeId} {y0 y1 y2 : Value} (h : Box w b t #[y0, y1, y2]) (x0 x1 x2 : Value) : Box (((w.setCell ⟨b, 0, none⟩ x0).setCell ⟨b, 1, none⟩ x1).setCell ⟨b, 2, none⟩ x2) b t #[x0, x1, x2] := by
  have := ((h.set_ 0 x0).set_ 1 x1).set_ 2 x2
  simpa using this
theorem Box.far3 {w : World} {b b' : Nat} {t : TypeId} {cs : Array Value} (h : Box w b t cs) (hne : b ≠ b') (x0 x1 x2 : Value) : Box (((w.setCell ⟨b', 0, none⟩ x0).setCell ⟨b', 1, none⟩ x1).setCell ⟨b', 2, none⟩ x2) b t cs := ((h.far hne x0).far hne x1).far hne x2

end Go.Proofs.YtkhkdnmpbfmmeaaDoor
