/- append of one pair to a slice of pairs of the call's own; the pairs renamed: placesIn, l16Renamed. -/
import Derived.Test.YtlmhhnplacejkaaPairs
import Derived.Test.YtlmhhnplacejkaaBroken
import Derived.Test.YtlmhhnplacejkaaApp
namespace Go.Proofs.Ytlmhhnplacejkaa
open Go.RowKit

theorem gp_app_lt {ps : List PairD} {p : PairD} {i : Nat} (h : i < ps.length) : gp (ps ++ [p]) i = gp ps i := by simp [gp, List.getElem?_append_left h]
theorem gp_app_eq {ps : List PairD} {p : PairD} : gp (ps ++ [p]) ps.length = p := by simp [gp]
theorem fl_app {ps : List PairD} {p : PairD} {j : Nat} (h : j < ps.length * 2) : fl (ps ++ [p]) j = fl ps j := by
  unfold fl
  rw [gp_app_lt (by omega)]
theorem fl_app0 {ps : List PairD} {p : PairD} : fl (ps ++ [p]) (ps.length * 2) = p.1 := by rw [fl_even, gp_app_eq]
theorem fl_app1 {ps : List PairD} {p : PairD} : fl (ps ++ [p]) (ps.length * 2 + 1) = p.2 := by rw [fl_odd, gp_app_eq]
theorem gv_app2 {cs : List Value} {a b : Value} {i : Nat} : gv (cs ++ [a, b]) i = if i < cs.length then gv cs i else if i = cs.length then a else if i = cs.length + 1 then b else undef := by
  unfold gv
  rw [List.getD_eq_getElem?_getD]
  by_cases h : i < cs.length
  · rw [if_pos h, List.getElem?_append_left h, ← List.getD_eq_getElem?_getD]
  · rw [if_neg h, List.getElem?_append_right (by omega)]
    by_cases h1 : i = cs.length
    · subst h1; simp
    · rw [if_neg h1]
      by_cases h2 : i = cs.length + 1
      · subst h2; simp
      · rw [if_neg h2, List.getElem?_eq_none (by simp; omega)]; rfl

theorem OPS.lt {w : World} {lo : Nat} {v : Value} {ps : List PairD} (h : OPS w lo v ps) : ∀ b, v.ownBlock = some b → lo ≤ b ∧ b < w.heap.size := by
  obtain ⟨cs, h1, _⟩ := h
  exact World.ownsRow.lt h1
set_option maxRecDepth 100000 in
theorem wp_pushP {o : Oper} {a : Act} {K : Act → World → Prop} {Q : Exit → Act → World → Prop} (s x : Operand)
    (ho : o.op = .call { callee := .builtin .append, args := #[s, x], argTypes := #[35, 35] })
    (W w : World) (lo : Nat) (v : Value) (ps : List PairD) (u1 u2 : Value) (xs ys : List Int) (hs : a.eval s = v) (hx : a.eval x = .slice (some ⟨w.heap.size, 0, none⟩) 1 1)
    (hlo : lo ≤ W.heap.size) (hown : OPS W lo v ps) (hW : Below W.heap.size W w) (h1 : OI 2 w W.heap.size u1 xs) (h2 : OI 2 w W.heap.size u2 ys) (hap : Apart u1 u2) (hn : ps.length ≤ 1048576)
    (h : ∀ v' w', OPS w' lo v' (ps ++ [(xs, ys)]) → Below lo w w' → Chg (fun b => v.ownBlock = some b) w w' → K (a.put o.dst v') w') : o.wp Try.prog a (w.alloc (.cells #[u1, u2] 96)) K Q := by
  obtain ⟨i1, hi1, hy0, hy1, hy2⟩ := info_parts infoPair
  obtain ⟨cs, r0, l0, hd⟩ := hown
  obtain ⟨Au, cu, rfl⟩ := h1.form
  obtain ⟨Av, cv, rfl⟩ := h2.form
  have hba : Below w.heap.size w (w.alloc (.cells #[.slice Au xs.length cu, .slice Av ys.length cv] 96)) := below_alloc (Nat.le_refl _) (Below.refl _ _)
  have k1 := row_below (row_below r0 hW) hba
  have k2 := (l0.below hW).below hba
  have ku := h1.below hba
  have kv := h2.below hba
  have hws := hW.size
  have hsz : lo ≤ (w.alloc (.cells #[.slice Au xs.length cu, .slice Av ys.length cv] 96)).heap.size := by simp; omega
  refine wp_append_lies _ s x 35 ho lo 96 i1 (.agg #[.slice none 0 0, .slice none 0 0]) 2 48 Try.underlying35 hi1 hy0 hy1 hy2 rfl (by decide) v ps.length cs hs k1 ⟨w.heap.size, 0, none⟩ 1 1 [.slice Au xs.length cu, .slice Av ys.length cv] hx rfl
    (fun j y hj => by
      match j, hj with
      | 0, hj => simp at hj; subst hj; simp [Addr.add]
      | 1, hj => simp at hj; subst hj; simp [Addr.add]) (by simp [Value.oneCell']) (by decide) (by unfold maxLen; omega) (by omega) hsz _ rfl ?_
  intro g cap w' r hg hat hlt
  have hc := Chg.of_grown hg
  have n2 : OL 2 w' lo cs (fl ps) := fun i hi => (k2 i hi).chg hc (fun b hb hs => own_ne (k2 i hi) k1 (by decide) b hb hs)
  have nu := ku.chg hc (fun b hb hs => own_ne ku k1 (by decide) b hb hs)
  have nv := kv.chg hc (fun b hb hs => own_ne kv k1 (by decide) b hb hs)
  have hcl := row_len k1
  have old1 : ∀ i, i < cs.length → Apart (gv cs i) (.slice Au xs.length cu) := fun i hi => apart_sep (fun b hb => (l0.lt i hi b hb).2) (fun b hb => (h1.lt b hb).1)
  have old2 : ∀ i, i < cs.length → Apart (gv cs i) (.slice Av ys.length cv) := fun i hi => apart_sep (fun b hb => (l0.lt i hi b hb).2) (fun b hb => (h2.lt b hb).1)
  refine h _ w' ⟨cs ++ [.slice Au xs.length cu, .slice Av ys.length cv], ?_, ?_, ?_⟩ ((hba.mono (Nat.le_trans hlo hws)).trans (hc.below hsz (fun b hb => (World.ownsRow.lt k1 b hb).1))) (((Chg.refl (fun _ => False) w).alloc _).trans hc (fun _ h => h.elim) (fun _ h => h))
  · simpa using r
  · intro i hi
    simp only [List.length_append, List.length_cons, List.length_nil] at hi
    rw [gv_app2]
    by_cases e : i < cs.length
    · rw [if_pos e, fl_app (by omega)]
      exact n2 i e
    · rw [if_neg e]
      by_cases e1 : i = cs.length
      · rw [if_pos e1, e1, hcl, fl_app0]
        exact nu.more hlo
      · rw [if_neg e1, if_pos (by omega), show i = ps.length * 2 + 1 from by omega, fl_app1]
        exact nv.more hlo
  · intro i j hi hj hne
    simp only [List.length_append, List.length_cons, List.length_nil] at hi hj
    rw [gv_app2, gv_app2]
    by_cases e : i < cs.length
    · rw [if_pos e]
      by_cases f : j < cs.length
      · rw [if_pos f]; exact hd i j e f hne
      · rw [if_neg f]
        by_cases f1 : j = cs.length
        · rw [if_pos f1]; exact old1 i e
        · rw [if_neg f1, if_pos (by omega)]; exact old2 i e
    · rw [if_neg e]
      by_cases e1 : i = cs.length
      · rw [if_pos e1]
        by_cases f : j < cs.length
        · rw [if_pos f]; exact (old1 j f).symm
        · rw [if_neg f, if_neg (by omega), if_pos (by omega)]; exact hap
      · rw [if_neg e1, if_pos (by omega)]
        by_cases f : j < cs.length
        · rw [if_pos f]; exact (old2 j f).symm
        · rw [if_neg f, if_pos (by omega)]; exact hap.symm

theorem OPS.empty {w : World} {B : Nat} (hB : B ≤ w.heap.size) : OPS (w.alloc (.cells #[] 96)) B (.slice (some ⟨w.heap.size, 0, none⟩) 0 0) [] :=
  ⟨[], World.ownsRow_lit w #[] 0 hB (by decide) rfl, fun i hi => absurd hi (by simp), fun i j hi _ _ => absurd hi (by simp)⟩
theorem OPS.nil (w : World) (lo : Nat) : OPS w lo (.slice none 0 0) [] :=
  ⟨[], World.ownsRow_nil w lo 96 2, fun i hi => absurd hi (by simp), fun i j hi _ _ => absurd hi (by simp)⟩

/-! ### places in keep of what of a set is in it -/
def renUp (s keep : List Int) (k : Nat) : List Int := pick (fun i => hasL s (gi keep i)) (fun i => (i : Int)) k
def renL (s keep : List Int) : List Int := renUp s keep keep.length
theorem ren_len (s keep : List Int) (k : Nat) : (renUp s keep k).length ≤ k := pick_len _ _ _
/-- as wp_pushP, where old memory below lo may have turned -/
theorem OPS.chg {S : Nat → Prop} {w w' : World} {lo : Nat} {v : Value} {ps : List PairD} (h : OPS w lo v ps) (hc : Chg S w w') (hS : ∀ b, S b → b < lo) : OPS w' lo v ps := by
  obtain ⟨cs, h1, h2, h3⟩ := h
  exact ⟨cs, row_chg h1 hc fun b hb hs => by have := (World.ownsRow.lt h1 b hb).1; have := hS b hs; omega, h2.chg hc hS, h3⟩
set_option maxRecDepth 100000 in
theorem wpList_pushP2 {ops : Array Oper} {rest : List Oper} {o : Oper} {a : Act} {Q : Exit → Act → World → Prop} (hgd : o.guard = none) (s x : Operand)
    (ho : o.op = .call { callee := .builtin .append, args := #[s, x], argTypes := #[35, 35] })
    (W w : World) (lo : Nat) (v : Value) (ps : List PairD) (u1 u2 : Value) (xs ys : List Int) (hs : a.eval s = v) (hx : a.eval x = .slice (some ⟨w.heap.size, 0, none⟩) 1 1)
    (hlo : lo ≤ W.heap.size) (hown : OPS W lo v ps) (hW : Chg (fun b => b < lo) W w) (h1 : OI 2 w W.heap.size u1 xs) (h2 : OI 2 w W.heap.size u2 ys) (hap : Apart u1 u2) (hn : ps.length ≤ 1048576)
    (h : ∀ v' w', OPS w' lo v' (ps ++ [(xs, ys)]) → Below lo w w' → Chg (fun b => v.ownBlock = some b) w w' → wpList Try.prog ops Q rest (a.put o.dst v') w') : wpList Try.prog ops Q (o :: rest) a (w.alloc (.cells #[u1, u2] 96)) := by
  refine wpList_plain hgd fun K hK => ?_
  replace h := fun v' w' h1 h2 h3 => hK _ _ (h v' w' h1 h2 h3)
  obtain ⟨i1, hi1, hy0, hy1, hy2⟩ := info_parts infoPair
  obtain ⟨cs, r0, l0, hd⟩ := hown
  obtain ⟨Au, cu, rfl⟩ := h1.form
  obtain ⟨Av, cv, rfl⟩ := h2.form
  have hba : Below w.heap.size w (w.alloc (.cells #[.slice Au xs.length cu, .slice Av ys.length cv] 96)) := below_alloc (Nat.le_refl _) (Below.refl _ _)
  have k1 := row_below (row_chg r0 hW (fun b hb hs => by have := (World.ownsRow.lt r0 b hb).1; omega)) hba
  have k2 := (l0.chg hW (fun _ h => h)).below hba
  have ku := h1.below hba
  have kv := h2.below hba
  have hws := hW.size
  have hsz : lo ≤ (w.alloc (.cells #[.slice Au xs.length cu, .slice Av ys.length cv] 96)).heap.size := by simp; omega
  refine wp_append_lies _ s x 35 ho lo 96 i1 (.agg #[.slice none 0 0, .slice none 0 0]) 2 48 Try.underlying35 hi1 hy0 hy1 hy2 rfl (by decide) v ps.length cs hs k1 ⟨w.heap.size, 0, none⟩ 1 1 [.slice Au xs.length cu, .slice Av ys.length cv] hx rfl
    (fun j y hj => by
      match j, hj with
      | 0, hj => simp at hj; subst hj; simp [Addr.add]
      | 1, hj => simp at hj; subst hj; simp [Addr.add]) (by simp [Value.oneCell']) (by decide) (by unfold maxLen; omega) (by omega) hsz _ rfl ?_
  intro g cap w' r hg hat hlt
  have hc := Chg.of_grown hg
  have n2 : OL 2 w' lo cs (fl ps) := fun i hi => (k2 i hi).chg hc (fun b hb hs => own_ne (k2 i hi) k1 (by decide) b hb hs)
  have nu := ku.chg hc (fun b hb hs => own_ne ku k1 (by decide) b hb hs)
  have nv := kv.chg hc (fun b hb hs => own_ne kv k1 (by decide) b hb hs)
  have hcl := row_len k1
  have old1 : ∀ i, i < cs.length → Apart (gv cs i) (.slice Au xs.length cu) := fun i hi => apart_sep (fun b hb => (l0.lt i hi b hb).2) (fun b hb => (h1.lt b hb).1)
  have old2 : ∀ i, i < cs.length → Apart (gv cs i) (.slice Av ys.length cv) := fun i hi => apart_sep (fun b hb => (l0.lt i hi b hb).2) (fun b hb => (h2.lt b hb).1)
  refine h _ w' ⟨cs ++ [.slice Au xs.length cu, .slice Av ys.length cv], ?_, ?_, ?_⟩ ((hba.mono (Nat.le_trans hlo hws)).trans (hc.below hsz (fun b hb => (World.ownsRow.lt k1 b hb).1))) (((Chg.refl (fun _ => False) w).alloc _).trans hc (fun _ h => h.elim) (fun _ h => h))
  · simpa using r
  · intro i hi
    simp only [List.length_append, List.length_cons, List.length_nil] at hi
    rw [gv_app2]
    by_cases e : i < cs.length
    · rw [if_pos e, fl_app (by omega)]
      exact n2 i e
    · rw [if_neg e]
      by_cases e1 : i = cs.length
      · rw [if_pos e1, e1, hcl, fl_app0]
        exact nu.more hlo
      · rw [if_neg e1, if_pos (by omega), show i = ps.length * 2 + 1 from by omega, fl_app1]
        exact nv.more hlo
  · intro i j hi hj hne
    simp only [List.length_append, List.length_cons, List.length_nil] at hi hj
    rw [gv_app2, gv_app2]
    by_cases e : i < cs.length
    · rw [if_pos e]
      by_cases f : j < cs.length
      · rw [if_pos f]; exact hd i j e f hne
      · rw [if_neg f]
        by_cases f1 : j = cs.length
        · rw [if_pos f1]; exact old1 i e
        · rw [if_neg f1, if_pos (by omega)]; exact old2 i e
    · rw [if_neg e]
      by_cases e1 : i = cs.length
      · rw [if_pos e1]
        by_cases f : j < cs.length
        · rw [if_pos f]; exact (old1 j f).symm
        · rw [if_neg f, if_neg (by omega), if_pos (by omega)]; exact hap
      · rw [if_neg e1, if_pos (by omega)]
        by_cases f : j < cs.length
        · rw [if_pos f]; exact (old2 j f).symm
        · rw [if_neg f, if_pos (by omega)]; exact hap.symm

end Go.Proofs.Ytlmhhnplacejkaa
