/- The state of a function that builds an arena in a box behind other boxes; the inside of a set by an index. -/
import Derived.Test.YtlmhhnplacejkaaArn
import Derived.Test.YtlmhhnplacejkaaParP
import Derived.Test.YtlmhhnplacejkaaRestA
namespace Go.Proofs.Ytlmhhnplacejkaa
open Go.RowKit

/-- from w0 on: the result's box br is still zero, the box bg holds the arena z, whose rows lie from B on -/
def GAx (B : Nat) (w0 w1 wr : World) (br bg : Nat) (s0 s1 : Value) (z : ArD) : Prop :=
  (Below w0.heap.size w0 wr ∧ Below w1.heap.size w1 wr ∧ w1.heap.size ≤ bg) ∧ B ≤ wr.heap.size ∧ (w0.heap.size ≤ br ∧ br < bg ∧ bg < B) ∧ Box wr br 30 #[.slice none 0 0, .slice none 0 0] ∧ Box wr bg 30 #[s0, s1] ∧ OArn wr B s0 s1 z
/-- the same with a row beside it that is to be appended -/
def GAu (B : Nat) (w0 w1 wr : World) (br bg : Nat) (s0 s1 u : Value) (g : ParD) : Prop :=
  (Below w0.heap.size w0 wr ∧ Below w1.heap.size w1 wr ∧ w1.heap.size ≤ bg) ∧ B ≤ wr.heap.size ∧ (w0.heap.size ≤ br ∧ br < bg ∧ bg < B) ∧ Box wr br 30 #[.slice none 0 0, .slice none 0 0] ∧ Box wr bg 30 #[s0, s1] ∧ OPar wr B s0 s1 u g
section
variable {B : Nat} {w0 w1 wr w : World} {br bg : Nat} {s0 s1 u t : Value} {z : ArD} {g : ParD}
theorem GAx.below (h : GAx B w0 w1 wr br bg s0 s1 z) : Below w0.heap.size w0 wr := h.1.1
theorem GAx.low (h : GAx B w0 w1 wr br bg s0 s1 z) : Below w1.heap.size w1 wr := h.1.2.1
theorem GAx.size (h : GAx B w0 w1 wr br bg s0 s1 z) : B ≤ wr.heap.size := h.2.1
theorem GAx.ord (h : GAx B w0 w1 wr br bg s0 s1 z) : w0.heap.size ≤ br ∧ br < bg ∧ bg < B := h.2.2.1
theorem GAx.zero (h : GAx B w0 w1 wr br bg s0 s1 z) : Box wr br 30 #[.slice none 0 0, .slice none 0 0] := h.2.2.2.1
theorem GAx.box (h : GAx B w0 w1 wr br bg s0 s1 z) : Box wr bg 30 #[s0, s1] := h.2.2.2.2.1
theorem GAx.own (h : GAx B w0 w1 wr br bg s0 s1 z) : OArn wr B s0 s1 z := h.2.2.2.2.2
theorem GAx.move (h : GAx B w0 w1 wr br bg s0 s1 z) (hb : Below wr.heap.size wr w) : GAx B w0 w1 w br bg s0 s1 z :=
  ⟨⟨below_then hb h.1.1.size h.1.1, below_then hb h.1.2.1.size h.1.2.1, h.1.2.2⟩, Nat.le_trans h.size hb.size, h.ord, h.zero.on hb, h.box.on hb, h.own.below hb⟩
theorem GAx.start (hw : Below w0.heap.size w0 w) (hb : w0.heap.size ≤ br) (hz : Box w br 30 #[.slice none 0 0, .slice none 0 0]) : GAx (w.heap.size + 1) w0 w (w.alloc (.cells #[.slice none 0 0, .slice none 0 0] 30)) br w.heap.size (.slice none 0 0) (.slice none 0 0) ([], []) :=
  ⟨⟨below_alloc (Nat.le_refl _) hw, below_alloc (Nat.le_refl _) (Below.refl _ _), Nat.le_refl _⟩, by simp, ⟨hb, hz.lt, Nat.lt_succ_self _⟩, hz.alloc _, Box.new _ _ _, OArn.nil _ _⟩
theorem GAx.fin (h : GAx B w0 w1 wr br bg s0 s1 z) : OArn ((wr.setCell ⟨br, 0, none⟩ s0).setCell ⟨br, 1, none⟩ s1) B s0 s1 z ∧
    Below w0.heap.size w0 ((wr.setCell ⟨br, 0, none⟩ s0).setCell ⟨br, 1, none⟩ s1) ∧
    Box ((wr.setCell ⟨br, 0, none⟩ s0).setCell ⟨br, 1, none⟩ s1) br 30 #[s0, s1] := by
  have ch : Chg (fun x => x = br) wr ((wr.setCell ⟨br, 0, none⟩ s0).setCell ⟨br, 1, none⟩ s1) := (Chg.set (w := wr) ⟨br, 0, none⟩ s0).trans (Chg.set ⟨br, 1, none⟩ s1) (U := fun x => x = br) (fun _ h => h) (fun _ h => h)
  have := h.ord
  refine ⟨h.own.chg ch (fun x hx => by omega), h.1.1.trans (ch.below h.1.1.size (fun x hx => by omega)), ?_⟩
  have := (h.zero.set_ 0 s0).set_ 1 s1
  simpa using this
/-- a refusal: zero is laid into the result's box once more -/
theorem zero2 {w0 w : World} {b : Nat} {y0 y1 : Value} (hw : Below w0.heap.size w0 w) (hb : w0.heap.size ≤ b) (hz : Box w b 30 #[y0, y1]) (x0 x1 : Value) :
    Below w0.heap.size w0 ((w.setCell ⟨b, 0, none⟩ x0).setCell ⟨b, 1, none⟩ x1) ∧ Box ((w.setCell ⟨b, 0, none⟩ x0).setCell ⟨b, 1, none⟩ x1) b 30 #[x0, x1] := by
  have ch : Chg (fun x => x = b) w ((w.setCell ⟨b, 0, none⟩ x0).setCell ⟨b, 1, none⟩ x1) := (Chg.set (w := w) ⟨b, 0, none⟩ x0).trans (Chg.set ⟨b, 1, none⟩ x1) (U := fun x => x = b) (fun _ h => h) (fun _ h => h)
  refine ⟨hw.trans (ch.below hw.size (fun x hx => by omega)), ?_⟩
  have := (hz.set_ 0 x0).set_ 1 x1
  simpa using this
theorem GAu.of (h : GAx B w0 w1 wr br bg s0 s1 z) (hb : Below wr.heap.size wr w) {row : List Int} (hu : OI 2 w wr.heap.size u row) : GAu B w0 w1 w br bg s0 s1 u (z.1, z.2, row) :=
  ⟨⟨below_then hb h.1.1.size h.1.1, below_then hb h.1.2.1.size h.1.2.1, h.1.2.2⟩, Nat.le_trans h.size hb.size, h.ord, h.zero.on hb, h.box.on hb,
   OPar.ofArn h.own h.size (S := fun _ => False) ⟨hb.os, hb.tape, hb.output, hb.size, fun k hk _ => hb.block k hk⟩ (fun _ h => h.elim) hu⟩
theorem GAu.move (h : GAu B w0 w1 wr br bg s0 s1 u g) (hb : Below wr.heap.size wr w) : GAu B w0 w1 w br bg s0 s1 u g :=
  ⟨⟨below_then hb h.1.1.size h.1.1, below_then hb h.1.2.1.size h.1.2.1, h.1.2.2⟩, Nat.le_trans h.2.1 hb.size, h.2.2.1, h.2.2.2.1.on hb, h.2.2.2.2.1.on hb, h.2.2.2.2.2.below hb⟩
theorem GAu.box (h : GAu B w0 w1 wr br bg s0 s1 u g) : Box wr bg 30 #[s0, s1] := h.2.2.2.2.1
theorem GAu.own (h : GAu B w0 w1 wr br bg s0 s1 u g) : OPar wr B s0 s1 u g := h.2.2.2.2.2
theorem GAu.size (h : GAu B w0 w1 wr br bg s0 s1 u g) : B ≤ wr.heap.size := h.2.1
theorem GAu.below (h : GAu B w0 w1 wr br bg s0 s1 u g) : Below w0.heap.size w0 wr := h.1.1
theorem GAu.ord (h : GAu B w0 w1 wr br bg s0 s1 u g) : w0.heap.size ≤ br ∧ br < bg ∧ bg < B := h.2.2.1
/-- behind the append to the owners: the boxes as they were, the game with the new owners -/
def GAm (B : Nat) (w0 w1 wr : World) (br bg : Nat) (s0 s1 t u : Value) (g : ParD) : Prop :=
  (Below w0.heap.size w0 wr ∧ Below w1.heap.size w1 wr ∧ w1.heap.size ≤ bg) ∧ B ≤ wr.heap.size ∧ (w0.heap.size ≤ br ∧ br < bg ∧ bg < B) ∧ Box wr br 30 #[.slice none 0 0, .slice none 0 0] ∧ Box wr bg 30 #[s0, s1] ∧ OPar wr B t s1 u g
theorem GAm.below (h : GAm B w0 w1 wr br bg s0 s1 t u g) : Below w0.heap.size w0 wr := h.1.1
theorem GAm.box (h : GAm B w0 w1 wr br bg s0 s1 t u g) : Box wr bg 30 #[s0, s1] := h.2.2.2.2.1
theorem GAu.app0 (h : GAu B w0 w1 wr br bg s0 s1 u g) {xs : List Int} (hc : Chg (fun b => s0.ownBlock = some b) wr w) (ho : OI 2 w B t xs) (hat : ∀ b, t.ownBlock = some b → s0.ownBlock = some b ∨ wr.heap.size ≤ b) : GAm B w0 w1 w br bg s0 s1 t u (xs, g.2.1, g.2.2) := by
  obtain ⟨⟨h1, hl, hg⟩, h2, h3, h4, h5, h6⟩ := h
  have hown : ∀ y, s0.ownBlock = some y → B ≤ y := fun y hy => h6.oldA y (.inl hy)
  refine ⟨⟨h1.trans (hc.below h1.size (fun x hx => by have := hown x hx; omega)), hl.trans (hc.below hl.size (fun x hx => by have := hown x hx; omega)), hg⟩, Nat.le_trans h2 hc.size, h3, ?_, ?_, h6.put0 hc ho hat⟩
  · exact (hc.block _ h4.lt (fun e => by have := hown _ e; omega)).trans h4
  · exact (hc.block _ h5.lt (fun e => by have := hown _ e; omega)).trans h5
theorem GAm.store (h : GAm B w0 w1 wr br bg s0 s1 t u g) : GAu B w0 w1 (wr.setCell ⟨bg, 0, none⟩ t) br bg t s1 u g := by
  obtain ⟨⟨h1, hl, hg⟩, h2, h3, h4, h5, h6⟩ := h
  have ch : Chg (fun x => x = bg) wr (wr.setCell ⟨bg, 0, none⟩ t) := Chg.set ⟨bg, 0, none⟩ t
  refine ⟨⟨h1.trans (ch.below h1.size (fun x hx => by omega)), hl.trans (ch.below hl.size (fun x hx => by omega)), hg⟩, Nat.le_trans h2 ch.size, h3, h4.far (by show br ≠ bg; omega) _, ?_, h6.chg ch (fun x hx => by omega)⟩
  have := h5.set_ 0 t
  simpa using this
/-- behind the append to the rows -/
theorem GAu.app1 (h : GAu B w0 w1 wr br bg s0 s1 u g) {w' : World} {t1 : Value} (hc : Chg (fun b => s1.ownBlock = some b) wr w') (ho : OArn w' B s0 t1 z) :
    Box w' bg 30 #[s0, s1] ∧ GAx B w0 w1 (w'.setCell ⟨bg, 1, none⟩ t1) br bg s0 t1 z := by
  obtain ⟨⟨h1, hl, hg⟩, h2, h3, h4, h5, h6⟩ := h
  have hown : ∀ y, s1.ownBlock = some y → B ≤ y := fun y hy => h6.oldA y (.inr (.inl hy))
  have k1 := h1.trans (hc.below h1.size (fun x hx => by have := hown x hx; omega))
  have kl := hl.trans (hc.below hl.size (fun x hx => by have := hown x hx; omega))
  have k4 : Box w' br 30 #[.slice none 0 0, .slice none 0 0] := (hc.block _ h4.lt (fun e => by have := hown _ e; omega)).trans h4
  have k5 : Box w' bg 30 #[s0, s1] := (hc.block _ h5.lt (fun e => by have := hown _ e; omega)).trans h5
  have ch : Chg (fun x => x = bg) w' (w'.setCell ⟨bg, 1, none⟩ t1) := Chg.set ⟨bg, 1, none⟩ t1
  refine ⟨k5, ⟨k1.trans (ch.below k1.size (fun x hx => by omega)), kl.trans (ch.below kl.size (fun x hx => by omega)), hg⟩, Nat.le_trans (Nat.le_trans h2 hc.size) ch.size, h3, k4.far (by show br ≠ bg; omega) _, ?_, ho.chg ch (fun x hx => by omega)⟩
  have := k5.set_ 1 t1
  simpa using this
end

/-! ### the inside of a set by an index -/
def idxUp (set : List Int) (n : Nat) : Nat → List Int
  | 0 => negL n
  | k + 1 => (idxUp set n k).set (gi set k).toNat (k : Int)
theorem idxUp_len (set : List Int) (n k : Nat) : (idxUp set n k).length = n := by
  induction k with
  | zero => exact fill_len _ _
  | succ k ih => rw [idxUp, List.length_set, ih]
theorem idxUp_at {set : List Int} {n : Nat} (hs : setB set (n : Int) = true) : ∀ {k : Nat}, k ≤ set.length → ∀ {u : Nat}, u < n → gi (idxUp set n k) u = firstI (fun i => gi set i == (u : Int)) k
  | 0, _, u, hu => by rw [idxUp]; unfold negL; rw [fill_at hu]; rfl
  | k + 1, hk, u, hu => by
    have ih := idxUp_at hs (k := k) (by omega) hu
    have hb := setB_true.1 hs k (by omega)
    have hr := rises_set hs
    rw [idxUp, gi_set (by rw [idxUp_len]; have := hb.2.1; have := hb.1; omega)]
    by_cases e : gi set k = (u : Int)
    · rw [if_pos (by omega), firstI, firstI_none (fun j hj => by have := hr j k hj (by omega); simp; omega), if_pos rfl, if_pos (by simp [e])]
    · rw [if_neg (by have := hb.1; omega), ih, firstI]
      by_cases e2 : firstI (fun i => gi set i == (u : Int)) k = -1
      · rw [e2, if_pos rfl, if_neg (by simp [e])]
      · rw [if_neg e2]
theorem idxUp_place {set : List Int} {n : Nat} (hs : setB set (n : Int) = true) {u : Nat} (hu : u < n) : gi (idxUp set n set.length) u = placeL set (u : Int) := idxUp_at hs (Nat.le_refl _) hu
theorem inUp_take {set row : List Int} {k : Nat} : (inUp set row k).length ≤ k := pick_len _ _ _
end Go.Proofs.Ytlmhhnplacejkaa
