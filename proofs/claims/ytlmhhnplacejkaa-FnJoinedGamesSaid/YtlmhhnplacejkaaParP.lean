/- Appends to a game of the call's own: an owner, a priority, a row of successors. -/
import Derived.Test.YtlmhhnplacejkaaGame2
import Derived.Test.YtlmhhnplacejkaaApp
namespace Go.Proofs.Ytlmhhnplacejkaa
open Go.RowKit

theorem apart_grow3 {u v x : Value} {H : Nat} (h : Apart u x) (hat : ∀ b, v.ownBlock = some b → u.ownBlock = some b ∨ H ≤ b) (hx : ∀ b, x.ownBlock = some b → b < H) : Apart v x := by
  unfold Apart
  cases e : v.ownBlock with
  | none => exact .inl rfl
  | some b =>
    right
    intro e2
    rcases hat b e with h1 | h1
    · exact apart_not h h1 e2.symm
    · have := hx b e2.symm; omega
theorem OPar.set0 {w w' : World} {lo : Nat} {s0 s1 u t0 : Value} {g : ParD} {xs : List Int} (h : OPar w lo s0 s1 u g) (hc : Chg (fun b => s0.ownBlock = some b) w w') (h0 : OI 2 w' lo t0 xs)
    (hat : ∀ b, t0.ownBlock = some b → s0.ownBlock = some b ∨ w.heap.size ≤ b) : OPar w' lo t0 s1 u (xs, g.2.1, g.2.2) := by
  obtain ⟨cs, ⟨k0, k1, k2⟩, k3, hd⟩ := h
  have d0u : Apart s0 u := hd 0 1 (by simp) (by simp) (by omega)
  have d0c : ∀ i, i < cs.length → Apart s0 (gv cs i) := fun i hi => hd.skip.head hi
  refine ⟨cs, ⟨h0, row_chg k1 hc (fun b hb hs => own_ne k0 k1 (by decide) b hs hb), fun i hi => (k2 i hi).chg hc (fun b hb hs => apart_not (d0c i hi) hs hb)⟩, k3.chg hc (fun b hb hs => apart_not d0u hs hb), Dis.cons hd.tail fun i hi => ?_⟩
  cases i with
  | zero => exact apart_grow3 d0u hat (fun b hb => (k3.lt b hb).2)
  | succ j => exact apart_grow3 (d0c j (by simpa using hi)) hat (fun b hb => (k2.lt j (by simpa using hi) b hb).2)
theorem OPar.set2 {w w' : World} {lo : Nat} {s0 s1 u t2 : Value} {g : ParD} {xs : List Int} (h : OPar w lo s0 s1 u g) (hc : Chg (fun b => u.ownBlock = some b) w w') (h0 : OI 2 w' lo t2 xs)
    (hat : ∀ b, t2.ownBlock = some b → u.ownBlock = some b ∨ w.heap.size ≤ b) : OPar w' lo s0 s1 t2 (g.1, g.2.1, xs) := by
  obtain ⟨cs, ⟨k0, k1, k2⟩, k3, hd⟩ := h
  have d0u : Apart s0 u := hd 0 1 (by simp) (by simp) (by omega)
  have d0c : ∀ i, i < cs.length → Apart s0 (gv cs i) := fun i hi => hd.skip.head hi
  have duc : ∀ i, i < cs.length → Apart u (gv cs i) := fun i hi => hd.tail.head hi
  refine ⟨cs, ⟨k0.chg hc (fun b hb hs => apart_not d0u hb hs), row_chg k1 hc (fun b hb hs => own_ne k3 k1 (by decide) b hs hb), fun i hi => (k2 i hi).chg hc (fun b hb hs => apart_not (duc i hi) hs hb)⟩, h0, Dis.cons (Dis.cons hd.tail.tail fun i hi => apart_grow3 (duc i hi) hat (fun b hb => (k2.lt i hi b hb).2)) fun i hi => ?_⟩
  cases i with
  | zero => exact (apart_grow3 d0u.symm hat (fun b hb => (k0.lt b hb).2)).symm
  | succ j => exact d0c j (by simpa using hi)
theorem OPar.row0 {w : World} {lo : Nat} {s0 s1 u : Value} {g : ParD} (h : OPar w lo s0 s1 u g) : OI 2 w lo s0 g.1 := by
  obtain ⟨cs, ⟨k0, _, _⟩, _, _⟩ := h
  exact k0
theorem OPar.row2 {w : World} {lo : Nat} {s0 s1 u : Value} {g : ParD} (h : OPar w lo s0 s1 u g) : OI 2 w lo u g.2.2 := by
  obtain ⟨cs, _, k, _⟩ := h
  exact k
/-- append of a row that is younger than the game -/
theorem wp_pushR {o : Oper} {a : Act} {K : Act → World → Prop} {Q : Exit → Act → World → Prop} (s x : Operand)
    (ho : o.op = .call { callee := .builtin .append, args := #[s, x], argTypes := #[28, 28] })
    {S : Nat → Prop} (W w : World) (lo : Nat) (s0 s1 s2 v : Value) (g : ParD) (nx : List Int) (hs : a.eval s = s1) (hx : a.eval x = .slice (some ⟨w.heap.size, 0, none⟩) 1 1)
    (hlo : lo ≤ W.heap.size) (hown : OPar W lo s0 s1 s2 g) (hch : Chg S W w) (hS : ∀ b, S b → b < lo) (hv : OI 2 w W.heap.size v nx) (hn : g.2.1.length ≤ 4194304)
    (h : ∀ t1 w', OPar w' lo s0 t1 s2 (g.1, g.2.1 ++ [nx], g.2.2) → Below lo w w' → K (a.put o.dst t1) w') : o.wp Try.prog a (w.alloc (.cells #[v] 27)) K Q := by
  obtain ⟨i1, hi1, hy0, hy1, hy2⟩ := info_parts infoII
  obtain ⟨cs, ⟨h0, h1, h2⟩, h3, hd⟩ := hown
  obtain ⟨Au, cu, rfl⟩ := hv.form
  have hws := hch.size
  have l0 := h0.lt; have l3 := h3.lt
  have l2 : ∀ i, i < cs.length → ∀ b, (gv cs i).ownBlock = some b → lo ≤ b ∧ b < W.heap.size := fun i hi b hb => h2.lt i hi b hb
  have lv := hv.lt
  have hba : Below w.heap.size w (w.alloc (.cells #[.slice Au nx.length cu] 27)) := below_alloc (Nat.le_refl _) (Below.refl _ _)
  have k0 := (h0.chg hch (fun b hb hs => by have := (l0 b hb).1; have := hS b hs; omega)).below hba
  have k1 := row_below (row_chg h1 hch (fun b hb hs => by have := (World.ownsRow.lt h1 b hb).1; have := hS b hs; omega)) hba
  have k2 := (h2.chg hch hS).below hba
  have k3 := (h3.chg hch (fun b hb hs => by have := (l3 b hb).1; have := hS b hs; omega)).below hba
  have kv := hv.below hba
  have d02 : Apart s0 s2 := hd 0 1 (by simp) (by simp) (by omega)
  have d0c : ∀ i, i < cs.length → Apart s0 (gv cs i) := fun i hi => hd.skip.head hi
  have d2c : ∀ i, i < cs.length → Apart s2 (gv cs i) := fun i hi => hd.tail.head hi
  have sepv : ∀ u, (∀ b, u.ownBlock = some b → b < W.heap.size) → Apart u (.slice Au nx.length cu) := fun u hu => apart_sep hu (fun b hb => (lv b hb).1)
  have hsz : lo ≤ (w.alloc (.cells #[.slice Au nx.length cu] 27)).heap.size := by simp; omega
  refine wp_append_lies _ s x 28 ho lo 27 i1 (.slice none 0 0) 1 24 Try.underlying28 hi1 hy0 hy1 hy2 rfl (by decide) s1 g.2.1.length cs hs k1 ⟨w.heap.size, 0, none⟩ 1 1 [.slice Au nx.length cu] hx rfl
    (push_news ((Box.new w 27 #[.slice Au nx.length cu]).cell 0)) (by simp [Value.oneCell']) (by decide) (by unfold maxLen; omega) (by omega) hsz _ rfl ?_
  intro gg cap w' r hg hat hlt
  have hc := Chg.of_grown hg
  have n0 := k0.chg hc (fun b hb hs => own_ne k0 k1 (by decide) b hb hs)
  have n3 := k3.chg hc (fun b hb hs => own_ne k3 k1 (by decide) b hb hs)
  have n2 : OL 2 w' lo cs (gl g.2.1) := fun i hi => (k2 i hi).chg hc (fun b hb hs => own_ne (k2 i hi) k1 (by decide) b hb hs)
  have nv := kv.chg hc (fun b hb hs => own_ne kv k1 (by decide) b hb hs)
  refine h _ w' ⟨cs ++ [.slice Au nx.length cu], ⟨n0, ?_, n2.app (nv.more (by omega)) (by have := row_len k1; omega)⟩, n3, ?_⟩ ((hba.mono (by omega)).trans (hc.below hsz (fun b hb => (World.ownsRow.lt k1 b hb).1)))
  · simpa using r
  · have end_ : ∀ u, Apart u (.slice Au nx.length cu) → (∀ i, i < cs.length → Apart u (gv cs i)) → ∀ i, i < (cs ++ [Value.slice Au nx.length cu]).length → Apart u (gv (cs ++ [Value.slice Au nx.length cu]) i) := fun u h1 h2 i hi => by
      rw [List.length_append, List.length_singleton] at hi
      by_cases e : i < cs.length
      · rw [gv_app_lt e]; exact h2 i e
      · obtain rfl : i = cs.length := by omega
        rw [gv_app_eq]; exact h1
    refine Dis.cons (Dis.cons (hd.tail.tail.app (fun i hi => sepv _ (fun b hb => (l2 i hi b hb).2))) (fun i hi => end_ s2 (sepv s2 (fun b hb => (l3 b hb).2)) d2c i hi)) (fun i hi => ?_)
    cases i with
    | zero => exact d02
    | succ j => exact end_ s0 (sepv s0 (fun b hb => (l0 b hb).2)) d0c j (by simpa using hi)
section
variable {B : Nat} {w0 wb w' : World} {br bg : Nat} {s0 s1 s2 t : Value} {g g' : ParD}
theorem GSx.step0 (h : GSx B w0 wb br bg s0 s1 s2 g) (hb : Below B wb w') (ho : OPar w' B t s1 s2 g') : GSx B w0 (w'.setCell ⟨bg, 0, none⟩ t) br bg t s1 s2 g' := by
  obtain ⟨k1, k2, k3, k4⟩ := h.call hb
  have ch := Chg.set (w := w') ⟨bg, 0, none⟩ t
  have := h.ord
  exact ⟨k3.trans (ch.below k3.size (fun x hx => by have h5 : x = bg := hx; omega)), Nat.le_trans k4 ch.size, h.ord, k1.far (by show br ≠ bg; omega) _, k2.set_ 0 t, ho.chg ch (fun x hx => by have h5 : x = bg := hx; omega)⟩
theorem GSx.step1 (h : GSx B w0 wb br bg s0 s1 s2 g) (hb : Below B wb w') (ho : OPar w' B s0 t s2 g') : GSx B w0 (w'.setCell ⟨bg, 1, none⟩ t) br bg s0 t s2 g' := by
  obtain ⟨k1, k2, k3, k4⟩ := h.call hb
  have ch := Chg.set (w := w') ⟨bg, 1, none⟩ t
  have := h.ord
  exact ⟨k3.trans (ch.below k3.size (fun x hx => by have h5 : x = bg := hx; omega)), Nat.le_trans k4 ch.size, h.ord, k1.far (by show br ≠ bg; omega) _, k2.set_ 1 t, ho.chg ch (fun x hx => by have h5 : x = bg := hx; omega)⟩
theorem GSx.step2 (h : GSx B w0 wb br bg s0 s1 s2 g) (hb : Below B wb w') (ho : OPar w' B s0 s1 t g') : GSx B w0 (w'.setCell ⟨bg, 2, none⟩ t) br bg s0 s1 t g' := by
  obtain ⟨k1, k2, k3, k4⟩ := h.call hb
  have ch := Chg.set (w := w') ⟨bg, 2, none⟩ t
  have := h.ord
  exact ⟨k3.trans (ch.below k3.size (fun x hx => by have h5 : x = bg := hx; omega)), Nat.le_trans k4 ch.size, h.ord, k1.far (by show br ≠ bg; omega) _, k2.set_ 2 t, ho.chg ch (fun x hx => by have h5 : x = bg := hx; omega)⟩
end
end Go.Proofs.Ytlmhhnplacejkaa
