/- Appends to a game of the call's own, a row of successors beside it. -/
import Derived.Test.YtkhkdnmpbfmmeaaDoorApp
namespace Go.Proofs.YtkhkdnmpbfmmeaaDoor
open Go.RowKit

theorem apart_grow3 {u v x : Value} {H : Nat} (h : Apart u x) (hat : ∀ b, v.ownBlock = some b → u.ownBlock = some b ∨ H ≤ b) (hx : ∀ b, x.ownBlock = some b → b < H) : Apart v x := by
  unfold Apart
  cases e : v.ownBlock with
  | none => exact .inl rfl
  | some b =>
    right
    intro e2
    rcases hat b e with h1 | h1
    · exact apart_not h h1 e2.symm
    · have := hx b e2.symm; omega
theorem OPar.row0 {w : World} {lo : Nat} {s0 s1 u : Value} {g : ParD} (h : OPar w lo s0 s1 u g) : OI 2 w lo s0 g.1 := by
  obtain ⟨cs, ⟨k0, _, _⟩, _, _⟩ := h
  exact k0
theorem OPar.row2 {w : World} {lo : Nat} {s0 s1 u : Value} {g : ParD} (h : OPar w lo s0 s1 u g) : OI 2 w lo u g.2.2 := by
  obtain ⟨cs, _, k, _⟩ := h
  exact k
/-- a game of the call's own with a row of its own beside it -/
def ParX (w : World) (lo : Nat) (s0 s1 s2 v : Value) (g : ParD) (nx : List Int) : Prop := ∃ cs, OAr w lo s0 s1 cs g.1 g.2.1 ∧ OI 2 w lo s2 g.2.2 ∧ OI 2 w lo v nx ∧ Dis (s0 :: s2 :: v :: cs)
section
variable {w w' W : World} {lo : Nat} {s0 s1 s2 v t0 : Value} {g : ParD} {nx xs : List Int} {S : Nat → Prop}
theorem ParX.of (h : OPar W lo s0 s1 s2 g) (hlo : lo ≤ W.heap.size) (hc : Chg S W w) (hS : ∀ b, S b → b < lo) (hv : OI 2 w W.heap.size v nx) : ParX w lo s0 s1 s2 v g nx := by
  obtain ⟨cs, ⟨h0, h1, h2⟩, h3, hd⟩ := h
  have l0 := h0.lt; have l3 := h3.lt
  have l2 : ∀ i, i < cs.length → ∀ b, (gv cs i).ownBlock = some b → lo ≤ b ∧ b < W.heap.size := fun i hi b hb => h2.lt i hi b hb
  have sepv : ∀ u : Value, (∀ b, u.ownBlock = some b → b < W.heap.size) → Apart u v := fun u hu => apart_sep hu (fun b hb => (hv.lt b hb).1)
  have k3 := h3.chg hc (fun b hb hs => by have := (l3 b hb).1; have := hS b hs; omega)
  refine ⟨cs, OAr.chg ⟨h0, h1, h2⟩ hc hS, k3, hv.more hlo, Dis.cons (Dis.cons (Dis.cons hd.tail.tail fun i hi => (sepv _ (fun b hb => (l2 i hi b hb).2)).symm) fun i hi => ?_) fun i hi => ?_⟩
  · cases i with
    | zero => exact sepv s2 (fun b hb => (l3 b hb).2)
    | succ j => exact hd.tail.head (i := j) (by simpa using hi)
  · cases i with
    | zero => exact hd 0 1 (by simp) (by simp) (by omega)
    | succ j =>
      cases j with
      | zero => exact sepv s0 (fun b hb => (l0 b hb).2)
      | succ j => exact hd.skip.head (i := j) (by simpa using hi)
theorem ParX.chg (h : ParX w lo s0 s1 s2 v g nx) (hc : Chg S w w') (hS : ∀ b, S b → b < lo) : ParX w' lo s0 s1 s2 v g nx := by
  obtain ⟨cs, h1, h2, h3, hd⟩ := h
  exact ⟨cs, h1.chg hc hS, h2.chg hc fun b hb hs => by have := (h2.lt b hb).1; have := hS b hs; omega, h3.chg hc fun b hb hs => by have := (h3.lt b hb).1; have := hS b hs; omega, hd⟩
theorem ParX.below (h : ParX w lo s0 s1 s2 v g nx) (hb : Below w.heap.size w w') : ParX w' lo s0 s1 s2 v g nx := by
  obtain ⟨cs, h1, h2, h3, hd⟩ := h
  exact ⟨cs, h1.below hb, h2.below hb, h3.below hb, hd⟩
theorem ParX.old1 (h : ParX w lo s0 s1 s2 v g nx) : ∀ b, s1.ownBlock = some b → lo ≤ b := by
  obtain ⟨cs, ⟨k0, k1, k2⟩, k3, k4, hd⟩ := h
  exact fun b h => (World.ownsRow.lt k1 b h).1
theorem ParX.put0 (h : ParX w lo s0 s1 s2 v g nx) (hc : Chg (fun b => s0.ownBlock = some b) w w') (h0 : OI 2 w' lo t0 xs)
    (hat : ∀ b, t0.ownBlock = some b → s0.ownBlock = some b ∨ w.heap.size ≤ b) : ParX w' lo t0 s1 s2 v (xs, g.2.1, g.2.2) nx := by
  obtain ⟨cs, ⟨k0, k1, k2⟩, k3, k4, hd⟩ := h
  have d02 : Apart s0 s2 := hd 0 1 (by simp) (by simp) (by omega)
  have d0v : Apart s0 v := hd 0 2 (by simp) (by simp) (by omega)
  have d0c : ∀ i, i < cs.length → Apart s0 (gv cs i) := fun i hi => hd.skip.skip.head hi
  refine ⟨cs, ⟨h0, row_chg k1 hc (fun b hb hs => own_ne k0 k1 (by decide) b hs hb), fun i hi => (k2 i hi).chg hc (fun b hb hs => apart_not (d0c i hi) hs hb)⟩, k3.chg hc (fun b hb hs => apart_not d02 hs hb), k4.chg hc (fun b hb hs => apart_not d0v hs hb), Dis.cons hd.tail fun i hi => ?_⟩
  cases i with
  | zero => exact apart_grow3 d02 hat (fun b hb => (k3.lt b hb).2)
  | succ j =>
    cases j with
    | zero => exact apart_grow3 d0v hat (fun b hb => (k4.lt b hb).2)
    | succ j => exact apart_grow3 (d0c j (by simpa using hi)) hat (fun b hb => (k2.lt j (by simpa using hi) b hb).2)
theorem ParX.put2 (h : ParX w lo s0 s1 s2 v g nx) (hc : Chg (fun b => s2.ownBlock = some b) w w') (h0 : OI 2 w' lo t0 xs)
    (hat : ∀ b, t0.ownBlock = some b → s2.ownBlock = some b ∨ w.heap.size ≤ b) : ParX w' lo s0 s1 t0 v (g.1, g.2.1, xs) nx := by
  obtain ⟨cs, ⟨k0, k1, k2⟩, k3, k4, hd⟩ := h
  have d02 : Apart s0 s2 := hd 0 1 (by simp) (by simp) (by omega)
  have d2v : Apart s2 v := hd.tail 0 1 (by simp) (by simp) (by omega)
  have d0v : Apart s0 v := hd 0 2 (by simp) (by simp) (by omega)
  have d0c : ∀ i, i < cs.length → Apart s0 (gv cs i) := fun i hi => hd.skip.skip.head hi
  have d2c : ∀ i, i < cs.length → Apart s2 (gv cs i) := fun i hi => hd.tail.skip.head hi
  refine ⟨cs, ⟨k0.chg hc (fun b hb hs => apart_not d02 hb hs), row_chg k1 hc (fun b hb hs => own_ne k3 k1 (by decide) b hs hb), fun i hi => (k2 i hi).chg hc (fun b hb hs => apart_not (d2c i hi) hs hb)⟩, h0, k4.chg hc (fun b hb hs => apart_not d2v hs hb), Dis.cons (Dis.cons hd.tail.tail fun i hi => ?_) fun i hi => ?_⟩
  · cases i with
    | zero => exact apart_grow3 d2v hat (fun b hb => (k4.lt b hb).2)
    | succ j => exact apart_grow3 (d2c j (by simpa using hi)) hat (fun b hb => (k2.lt j (by simpa using hi) b hb).2)
  · cases i with
    | zero => exact (apart_grow3 d02.symm hat (fun b hb => (k0.lt b hb).2)).symm
    | succ j =>
      cases j with
      | zero => exact d0v
      | succ j => exact d0c j (by simpa using hi)
theorem ParX.row0 (h : ParX w lo s0 s1 s2 v g nx) : OI 2 w lo s0 g.1 := by
  obtain ⟨cs, ⟨k0, _, _⟩, _⟩ := h
  exact k0
theorem ParX.row2 (h : ParX w lo s0 s1 s2 v g nx) : OI 2 w lo s2 g.2.2 := by
  obtain ⟨cs, _, k, _⟩ := h
  exact k
end
theorem wp_pushX {o : Oper} {a : Act} {K : Act → World → Prop} {Q : Exit → Act → World → Prop} (s x : Operand)
    (ho : o.op = .call { callee := .builtin .append, args := #[s, x], argTypes := #[45, 45] })
    (w : World) (lo : Nat) (s0 s1 s2 v : Value) (g : ParD) (nx : List Int) (hs : a.eval s = s1) (hx : a.eval x = .slice (some ⟨w.heap.size, 0, none⟩) 1 1)
    (hlo : lo ≤ w.heap.size) (hown : ParX w lo s0 s1 s2 v g nx) (hn : g.2.1.length ≤ 4194304)
    (h : ∀ t1 w', OPar w' lo s0 t1 s2 (g.1, g.2.1 ++ [nx], g.2.2) → Below lo w w' → Chg (fun b => s1.ownBlock = some b) w w' → (∀ b, t1.ownBlock = some b → s1.ownBlock = some b ∨ w.heap.size ≤ b) → K (a.put o.dst t1) w') : o.wp Tryd.prog a (w.alloc (.cells #[v] 22)) K Q := by
  obtain ⟨i1, hi1, hy0, hy1, hy2⟩ := info_parts infoII
  obtain ⟨cs, ⟨h0, h1, h2⟩, h3, hv, hd⟩ := hown
  obtain ⟨Au, cu, rfl⟩ := hv.form
  have hba : Below w.heap.size w (w.alloc (.cells #[.slice Au nx.length cu] 22)) := below_alloc (Nat.le_refl _) (Below.refl _ _)
  have k0 := h0.below hba
  have k1 := row_below h1 hba
  have k2 := h2.below hba
  have k3 := h3.below hba
  have kv := hv.below hba
  have d02 : Apart s0 s2 := hd 0 1 (by simp) (by simp) (by omega)
  have d0v : Apart s0 (.slice Au nx.length cu) := hd 0 2 (by simp) (by simp) (by omega)
  have d2v : Apart s2 (.slice Au nx.length cu) := hd.tail 0 1 (by simp) (by simp) (by omega)
  have d0c : ∀ i, i < cs.length → Apart s0 (gv cs i) := fun i hi => hd.skip.skip.head hi
  have d2c : ∀ i, i < cs.length → Apart s2 (gv cs i) := fun i hi => hd.tail.skip.head hi
  have dvc : ∀ i, i < cs.length → Apart (.slice Au nx.length cu) (gv cs i) := fun i hi => hd.tail.tail.head hi
  have hsz : lo ≤ (w.alloc (.cells #[.slice Au nx.length cu] 22)).heap.size := by simp; omega
  refine wp_append_lies _ s x 45 ho lo 22 i1 (.slice none 0 0) 1 24 Tryd.underlying45 hi1 hy0 hy1 hy2 rfl (by decide) s1 g.2.1.length cs hs k1 ⟨w.heap.size, 0, none⟩ 1 1 [.slice Au nx.length cu] hx rfl
    (push_news ((Box.new w 22 #[.slice Au nx.length cu]).cell 0)) (by simp [Value.oneCell']) (by decide) (by unfold maxLen; omega) (by omega) hsz _ rfl ?_
  intro gg cap w' r hg hat hlt
  have hc := Chg.of_grown hg
  have n0 := k0.chg hc (fun b hb hs => own_ne k0 k1 (by decide) b hb hs)
  have n3 := k3.chg hc (fun b hb hs => own_ne k3 k1 (by decide) b hb hs)
  have n2 : OL 2 w' lo cs (gl g.2.1) := fun i hi => (k2 i hi).chg hc (fun b hb hs => own_ne (k2 i hi) k1 (by decide) b hb hs)
  have nv := kv.chg hc (fun b hb hs => own_ne kv k1 (by decide) b hb hs)
  refine h _ w' ⟨cs ++ [.slice Au nx.length cu], ⟨n0, ?_, n2.app nv (by have := row_len k1; omega)⟩, n3, ?_⟩ ((hba.mono (by omega)).trans (hc.below hsz (fun b hb => (World.ownsRow.lt k1 b hb).1))) (((Chg.refl (fun _ => False) w).alloc _).trans hc (fun _ h => h.elim) (fun _ h => h)) ?_
  · simpa using r
  · have end_ : ∀ u, Apart u (.slice Au nx.length cu) → (∀ i, i < cs.length → Apart u (gv cs i)) → ∀ i, i < (cs ++ [Value.slice Au nx.length cu]).length → Apart u (gv (cs ++ [Value.slice Au nx.length cu]) i) := fun u h1 h2 i hi => by
      rw [List.length_append, List.length_singleton] at hi
      by_cases e : i < cs.length
      · rw [gv_app_lt e]; exact h2 i e
      · obtain rfl : i = cs.length := by omega
        rw [gv_app_eq]; exact h1
    refine Dis.cons (Dis.cons (hd.tail.tail.tail.app (fun i hi => (dvc i hi).symm)) (fun i hi => end_ s2 d2v d2c i hi)) (fun i hi => ?_)
    cases i with
    | zero => exact d02
    | succ j => exact end_ s0 d0v d0c j (by simpa using hi)
  · intro b hb
    simp [Value.ownBlock] at hb
    subst hb
    rcases hat with h | h
    · exact .inl h
    · right; simp at h; omega
theorem wpList_pushX {ops : Array Oper} {rest : List Oper} {o : Oper} {a : Act} {Q : Exit → Act → World → Prop} (hgd : o.guard = none) (s x : Operand)
    (ho : o.op = .call { callee := .builtin .append, args := #[s, x], argTypes := #[45, 45] })
    (w : World) (lo : Nat) (s0 s1 s2 v : Value) (g : ParD) (nx : List Int) (hs : a.eval s = s1) (hx : a.eval x = .slice (some ⟨w.heap.size, 0, none⟩) 1 1)
    (hlo : lo ≤ w.heap.size) (hown : ParX w lo s0 s1 s2 v g nx) (hn : g.2.1.length ≤ 4194304)
    (h : ∀ t1 w', OPar w' lo s0 t1 s2 (g.1, g.2.1 ++ [nx], g.2.2) → Below lo w w' → Chg (fun b => s1.ownBlock = some b) w w' → (∀ b, t1.ownBlock = some b → s1.ownBlock = some b ∨ w.heap.size ≤ b) → wpList Tryd.prog ops Q rest (a.put o.dst t1) w') : wpList Tryd.prog ops Q (o :: rest) a (w.alloc (.cells #[v] 22)) :=
  wpList_plain hgd fun _ hK => wp_pushX s x ho w lo s0 s1 s2 v g nx hs hx hlo hown hn fun t1 w' h1 h2 h3 h4 => hK _ _ (h t1 w' h1 h2 h3 h4)
theorem wpList_pushXH {ops : Array Oper} {rest : List Oper} {o : Oper} {a : Act} {Q : Exit → Act → World → Prop} (hgd : o.guard = none) (s x : Operand)
    (ho : o.op = .call { callee := .builtin .append, args := #[s, x], argTypes := #[45, 45] })
    (w : World) (H : Nat) (hH : w.heap.size = H) (lo : Nat) (s0 s1 s2 v : Value) (g : ParD) (nx : List Int) (hs : a.eval s = s1) (hx : a.eval x = .slice (some ⟨H, 0, none⟩) 1 1)
    (hlo : lo ≤ H) (hown : ParX w lo s0 s1 s2 v g nx) (hn : g.2.1.length ≤ 4194304)
    (h : ∀ t1 w', OPar w' lo s0 t1 s2 (g.1, g.2.1 ++ [nx], g.2.2) → Below lo w w' → Chg (fun b => s1.ownBlock = some b) w w' → (∀ b, t1.ownBlock = some b → s1.ownBlock = some b ∨ w.heap.size ≤ b) → wpList Tryd.prog ops Q rest (a.put o.dst t1) w') : wpList Tryd.prog ops Q (o :: rest) a (w.alloc (.cells #[v] 22)) := by
  subst hH
  exact wpList_pushX hgd s x ho w lo s0 s1 s2 v g nx hs hx hlo hown hn h
end Go.Proofs.YtkhkdnmpbfmmeaaDoor
