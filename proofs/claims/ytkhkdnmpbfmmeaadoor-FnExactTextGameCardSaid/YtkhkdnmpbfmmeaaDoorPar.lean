/- Arenas and parity games: how they read, whose they are; eqArena, eqParity. -/
import Derived.Test.YtkhkdnmpbfmmeaaDoorGrid
namespace Go.Proofs.YtkhkdnmpbfmmeaaDoor
open Go.RowKit

/-- owners, successors, priorities -/
abbrev ParD := List Int × List (List Int) × List Int

def RIv (w : World) (v : Value) (xs : List Int) : Prop := ∃ A n c, v = .slice A n c ∧ RI w A n c xs
def RIIv (w : World) (v : Value) (xs : List (List Int)) : Prop := ∃ A n c, v = .slice A n c ∧ RII w A n c xs
theorem RIv.keep {w w' : World} {v : Value} {xs : List Int} (h : RIv w v xs) (k : Keeps w w') : RIv w' v xs := by
  obtain ⟨A, n, c, rfl, h⟩ := h
  exact ⟨A, n, c, rfl, h.keep k⟩
theorem RIIv.keep {w w' : World} {v : Value} {xs : List (List Int)} (h : RIIv w v xs) (k : Keeps w w') : RIIv w' v xs := by
  obtain ⟨A, n, c, rfl, h⟩ := h
  exact ⟨A, n, c, rfl, h.keep k⟩
theorem OI.rv {E : TypeId} {w : World} {lo : Nat} {v : Value} {xs : List Int} (h : OI E w lo v xs) : RIv w v xs := by
  obtain ⟨A, c, rfl⟩ := h.form
  exact ⟨A, _, c, rfl, h.reads⟩
/-- an arena that reads as (owners, successors); a game -/
def RAv (w : World) (s0 s1 : Value) (o : List Int) (n : List (List Int)) : Prop := RIv w s0 o ∧ RIIv w s1 n
def RPv (w : World) (s0 s1 s2 : Value) (g : ParD) : Prop := RAv w s0 s1 g.1 g.2.1 ∧ RIv w s2 g.2.2
theorem RAv.keep {w w' : World} {s0 s1 : Value} {o : List Int} {n : List (List Int)} (h : RAv w s0 s1 o n) (k : Keeps w w') : RAv w' s0 s1 o n := ⟨h.1.keep k, h.2.keep k⟩
theorem RPv.keep {w w' : World} {s0 s1 s2 : Value} {g : ParD} (h : RPv w s0 s1 s2 g) (k : Keeps w w') : RPv w' s0 s1 s2 g := ⟨h.1.keep k, h.2.keep k⟩

/-- an arena, a game of the call's own: no block shared -/
def OAr (w : World) (lo : Nat) (s0 s1 : Value) (cs : List Value) (o : List Int) (n : List (List Int)) : Prop :=
  OI 2 w lo s0 o ∧ w.ownsRow lo 22 1 s1 n.length cs ∧ OL 2 w lo cs (gl n)
def OPar (w : World) (lo : Nat) (s0 s1 s2 : Value) (g : ParD) : Prop := ∃ cs, OAr w lo s0 s1 cs g.1 g.2.1 ∧ OI 2 w lo s2 g.2.2 ∧ Dis (s0 :: s2 :: cs)
section
variable {w w' : World} {lo lo' : Nat} {s0 s1 s2 : Value} {cs : List Value} {o : List Int} {n : List (List Int)} {g : ParD}
theorem OL.chg {E : TypeId} {S : Nat → Prop} {f : Nat → List Int} (h : OL E w lo cs f) (hc : Chg S w w') (hS : ∀ b, S b → b < lo) : OL E w' lo cs f := fun i hi =>
  (h i hi).chg hc fun b hb hs => by have := ((h i hi).lt b hb).1; have := hS b hs; omega
theorem OAr.chg {S : Nat → Prop} (h : OAr w lo s0 s1 cs o n) (hc : Chg S w w') (hS : ∀ b, S b → b < lo) : OAr w' lo s0 s1 cs o n :=
  ⟨h.1.chg hc fun b hb hs => by have := (h.1.lt b hb).1; have := hS b hs; omega,
   row_chg h.2.1 hc fun b hb hs => by have := (World.ownsRow.lt h.2.1 b hb).1; have := hS b hs; omega, h.2.2.chg hc hS⟩
theorem OPar.chg {S : Nat → Prop} (h : OPar w lo s0 s1 s2 g) (hc : Chg S w w') (hS : ∀ b, S b → b < lo) : OPar w' lo s0 s1 s2 g := by
  obtain ⟨cs, h1, h2, h3⟩ := h
  exact ⟨cs, h1.chg hc hS, h2.chg hc fun b hb hs => by have := (h2.lt b hb).1; have := hS b hs; omega, h3⟩
theorem OAr.below (h : OAr w lo s0 s1 cs o n) (hb : Below w.heap.size w w') : OAr w' lo s0 s1 cs o n := ⟨h.1.below hb, row_below h.2.1 hb, h.2.2.below hb⟩
theorem OPar.below (h : OPar w lo s0 s1 s2 g) (hb : Below w.heap.size w w') : OPar w' lo s0 s1 s2 g := by
  obtain ⟨cs, h1, h2, h3⟩ := h
  exact ⟨cs, h1.below hb, h2.below hb, h3⟩
theorem OAr.more (h : OAr w lo s0 s1 cs o n) (hl : lo' ≤ lo) : OAr w lo' s0 s1 cs o n := ⟨h.1.more hl, row_more h.2.1 hl, h.2.2.more hl⟩
theorem OPar.more (h : OPar w lo s0 s1 s2 g) (hl : lo' ≤ lo) : OPar w lo' s0 s1 s2 g := by
  obtain ⟨cs, h1, h2, h3⟩ := h
  exact ⟨cs, h1.more hl, h2.more hl, h3⟩
theorem OAr.far {p : Addr} (h : OAr w lo s0 s1 cs o n) (hp : p.block < lo) (u : Value) : OAr (w.setCell p u) lo s0 s1 cs o n :=
  ⟨h.1.far hp u, ownsRow_setCell_below h.2.1 hp u, h.2.2.far hp u⟩
theorem OPar.far {p : Addr} (h : OPar w lo s0 s1 s2 g) (hp : p.block < lo) (u : Value) : OPar (w.setCell p u) lo s0 s1 s2 g := by
  obtain ⟨cs, h1, h2, h3⟩ := h
  exact ⟨cs, h1.far hp u, h2.far hp u, h3⟩
theorem OAr.reads (h : OAr w lo s0 s1 cs o n) : RAv w s0 s1 o n := by
  obtain ⟨A, c, e, _⟩ := row_form h.2.1
  have h2 := h.2.1
  rw [e] at h2
  exact ⟨h.1.rv, A, _, c, e, RII.of_rows rfl h2 h.2.2⟩
theorem OPar.reads (h : OPar w lo s0 s1 s2 g) : RPv w s0 s1 s2 g := by
  obtain ⟨cs, h1, h2, h3⟩ := h
  exact ⟨h1.reads, h2.rv⟩
theorem OPar.form (h : OPar w lo s0 s1 s2 g) : ∃ A0 c0 A1 c1 A2 c2, s0 = .slice A0 g.1.length c0 ∧ s1 = .slice A1 g.2.1.length c1 ∧ s2 = .slice A2 g.2.2.length c2 := by
  obtain ⟨cs, h1, h2, h3⟩ := h
  obtain ⟨A0, c0, e0⟩ := h1.1.form
  obtain ⟨A1, c1, e1, _⟩ := row_form h1.2.1
  obtain ⟨A2, c2, e2⟩ := h2.form
  exact ⟨A0, c0, A1, c1, A2, c2, e0, e1, e2⟩
theorem OPar.nil (w : World) (lo : Nat) : OPar w lo (.slice none 0 0) (.slice none 0 0) (.slice none 0 0) ([], [], []) := by
  refine ⟨[], ⟨OI.nil _ _ _, World.ownsRow_nil w lo _ 1, fun i hi => absurd hi (by simp)⟩, OI.nil _ _ _, ?_⟩
  intro i j hi hj hne
  simp at hi hj
  have : gv [Value.slice none 0 0, .slice none 0 0] i = .slice none 0 0 := by
    have : i = 0 ∨ i = 1 := by omega
    rcases this with rfl | rfl <;> rfl
  rw [this]
  exact .inl rfl
end

def eqAr (o o' : List Int) (n n' : List (List Int)) : Bool := eqL o o' && eqLL n n'
def eqPar (g h : ParD) : Bool := decide (g = h)
theorem eqPar_eq (g h : ParD) : eqPar g h = (eqAr g.1 h.1 g.2.1 h.2.1 && eqL g.2.2 h.2.2) := by
  unfold eqPar eqAr eqL eqLL
  obtain ⟨a, b, c⟩ := g
  obtain ⟨a', b', c'⟩ := h
  rw [Bool.eq_iff_iff]
  simp [and_assoc]

set_option maxHeartbeats 400000 in
theorem eqArena (s0 s1 t0 t1 : Value) (o o' : List Int) (n n' : List (List Int)) (w : World) (B : Nat) (hB : B ≤ w.heap.size) (hs : RAv w s0 s1 o n) (ht : RAv w t0 t1 o' n') :
    Calls Tryd.prog 76 #[.agg #[s0, s1], .agg #[t0, t1]] w fun e w' => e = .returned (.bool (eqAr o o' n n')) ∧ Below B w w' := by
  obtain ⟨⟨A0, n0, c0, rfl, h0⟩, ⟨A1, n1, c1, rfl, h1⟩⟩ := hs
  obtain ⟨⟨B0, m0, d0, rfl, k0⟩, ⟨B1, m1, d1, rfl, k1⟩⟩ := ht
  have hbw : Below w.heap.size w ((w.alloc (.cells #[.slice A0 n0 c0, .slice A1 n1 c1] 52)).alloc (.cells #[.slice B0 m0 d0, .slice B1 m1 d1] 52)) := below_alloc (Nat.le_refl _) (below_alloc (Nat.le_refl _) (Below.refl _ _))
  have K := keeps_below hbw
  cases e1 : eqL o o' with
  | false =>
    have E := Lib.hid (show eqAr o o' n n' = false by unfold eqAr; rw [e1]; rfl)
    go_enter Tryd.func76, Tryd.ntmps76
    go_wp2_with (go_at_call 20; refine (eqInts _ _ _ _ _ _ _ _ _ (h0.keep K) (k0.keep K)).mono ?_; rintro e w1 ⟨rfl, q, rfl⟩)
    go_ret
    exact ⟨ret_b E.out.symm, below_drewN (hbw.mono hB) _⟩
  | true =>
    cases e2 : eqLL n n' with
    | false =>
      have E := Lib.hid (show eqAr o o' n n' = false by unfold eqAr; rw [e1, e2]; rfl)
      go_enter Tryd.func76, Tryd.ntmps76
      go_wp2_with (first | (go_at_call 20; refine (eqInts _ _ _ _ _ _ _ _ _ (h0.keep K) (k0.keep K)).mono ?_; rintro e w1 ⟨rfl, q, rfl⟩) | (go_at_call 96; refine (eqGrid _ _ _ _ _ _ _ _ _ ((h1.keep K).keep (Qt.keeps ⟨_, rfl⟩)) ((k1.keep K).keep (Qt.keeps ⟨_, rfl⟩))).mono ?_; rintro e w2 ⟨rfl, q2, rfl⟩))
      go_ret
      exact ⟨ret_b E.out.symm, below_drewN (hbw.mono hB) _⟩
    | true =>
      have E := Lib.hid (show eqAr o o' n n' = true by unfold eqAr; rw [e1, e2]; rfl)
      go_enter Tryd.func76, Tryd.ntmps76
      go_wp2_with (first | (go_at_call 20; refine (eqInts _ _ _ _ _ _ _ _ _ (h0.keep K) (k0.keep K)).mono ?_; rintro e w1 ⟨rfl, q, rfl⟩) | (go_at_call 96; refine (eqGrid _ _ _ _ _ _ _ _ _ ((h1.keep K).keep (Qt.keeps ⟨_, rfl⟩)) ((k1.keep K).keep (Qt.keeps ⟨_, rfl⟩))).mono ?_; rintro e w2 ⟨rfl, q2, rfl⟩))
      go_ret
      exact ⟨ret_b E.out.symm, below_drewN (hbw.mono hB) _⟩

set_option maxHeartbeats 400000 in
theorem eqParity (s0 s1 s2 t0 t1 t2 : Value) (g h : ParD) (w : World) (B : Nat) (hB : B ≤ w.heap.size) (hs : RPv w s0 s1 s2 g) (ht : RPv w t0 t1 t2 h) :
    Calls Tryd.prog 35 #[.agg #[s0, s1, s2], .agg #[t0, t1, t2]] w fun e w' => e = .returned (.bool (eqPar g h)) ∧ Below B w w' := by
  obtain ⟨hs1, ⟨A2, n2, c2, rfl, h2⟩⟩ := hs
  obtain ⟨ht1, ⟨B2, m2, d2, rfl, k2⟩⟩ := ht
  have hs1' := hs1
  have ht1' := ht1
  obtain ⟨⟨A0, n0, c0, rfl, h0⟩, ⟨A1, n1, c1, rfl, h1⟩⟩ := hs1'
  obtain ⟨⟨B0, m0, d0, rfl, k0⟩, ⟨B1, m1, d1, rfl, k1⟩⟩ := ht1'
  have hbw : Below w.heap.size w ((w.alloc (.cells #[.slice A0 n0 c0, .slice A1 n1 c1, .slice A2 n2 c2] 54)).alloc (.cells #[.slice B0 m0 d0, .slice B1 m1 d1, .slice B2 m2 d2] 54)) := below_alloc (Nat.le_refl _) (below_alloc (Nat.le_refl _) (Below.refl _ _))
  have K := keeps_below hbw
  have EQ := Lib.hid (eqPar_eq g h)
  have l0 : ((w.alloc (.cells #[.slice A0 n0 c0, .slice A1 n1 c1, .slice A2 n2 c2] 54)).alloc (.cells #[.slice B0 m0 d0, .slice B1 m1 d1, .slice B2 m2 d2] 54)).cell? ⟨w.heap.size, 2, none⟩ = some (.slice A2 n2 c2) := by simp [go_sem]
  have l1 : ((w.alloc (.cells #[.slice A0 n0 c0, .slice A1 n1 c1, .slice A2 n2 c2] 54)).alloc (.cells #[.slice B0 m0 d0, .slice B1 m1 d1, .slice B2 m2 d2] 54)).cell? ⟨w.heap.size + 1, 2, none⟩ = some (.slice B2 m2 d2) := by simp [go_sem]
  go_enter Tryd.func35, Tryd.ntmps35
  go_wp2_with fail
  refine (eqArena _ _ _ _ _ _ _ _ _ _ (Nat.le_refl _) (hs1.keep K) (ht1.keep K)).mono ?_; rintro e w1 ⟨rfl, hb1⟩
  have hw1 := below_then hb1 hbw.size hbw
  have K1 := keeps_below hb1
  have l0' := K1 _ _ l0
  have l1' := K1 _ _ l1
  cases e1 : eqAr g.1 h.1 g.2.1 h.2.1 with
  | false =>
    rw [e1] at EQ
    go_wp2
    go_ret
    exact ⟨ret_b (by rw [EQ.out]; rfl), hw1.mono hB⟩
  | true =>
    rw [e1] at EQ
    cases e2 : eqL g.2.2 h.2.2 with
    | false =>
      rw [e2] at EQ
      go_wp2_with (go_at_call 20; refine (eqInts _ _ _ _ _ _ _ _ _ ((h2.keep K).keep K1) ((k2.keep K).keep K1)).mono ?_; rintro e w2 ⟨rfl, q, rfl⟩)
      go_ret
      exact ⟨ret_b (by rw [EQ.out]; rfl), below_drewN (hw1.mono hB) _⟩
    | true =>
      rw [e2] at EQ
      go_wp2_with (go_at_call 20; refine (eqInts _ _ _ _ _ _ _ _ _ ((h2.keep K).keep K1) ((k2.keep K).keep K1)).mono ?_; rintro e w2 ⟨rfl, q, rfl⟩)
      go_ret
      exact ⟨ret_b (by rw [EQ.out]; rfl), below_drewN (hw1.mono hB) _⟩
end Go.Proofs.YtkhkdnmpbfmmeaaDoor
