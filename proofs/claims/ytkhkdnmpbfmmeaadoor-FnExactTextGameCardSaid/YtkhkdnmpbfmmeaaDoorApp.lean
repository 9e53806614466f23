/- append of one int64 onto a row of the call's own: the walk's laws. append of a whole list onto a row of the call's own. -/
import Derived.Test.YtkhkdnmpbfmmeaaDoorPush
import Derived.Laws.AppendOwnNone
namespace Go.Proofs.YtkhkdnmpbfmmeaaDoor
open Go.RowKit

theorem infoI' : (Tryd.prog.info? 2).map (fun i => (i.zero, i.size, i.bytes)) = some (some (.int .i64 0), 1, 8) := by kernel_rfl
theorem infoII : (Tryd.prog.info? 22).map (fun i => (i.zero, i.size, i.bytes)) = some (some (.slice none 0 0), 1, 24) := by kernel_rfl

theorem OI.app {E : TypeId} {w : World} {lo n : Nat} {v : Value} {xs : List Int} {x : Int} (h : w.ownsRow lo E 1 v (n + 1) (xs.map (Value.int .i64) ++ [.int .i64 x])) (hn : n = xs.length) : OI E w lo v (xs ++ [x]) := by
  unfold OI
  rw [List.length_append, List.map_append, List.length_singleton, ← hn]
  exact h
theorem gv_app_lt {cs : List Value} {v : Value} {i : Nat} (h : i < cs.length) : gv (cs ++ [v]) i = gv cs i := by simp [gv, List.getElem?_append_left h]
theorem gv_app_eq {cs : List Value} {v : Value} : gv (cs ++ [v]) cs.length = v := by simp [gv]
theorem gl_app_lt {cs : List (List Int)} {v : List Int} {i : Nat} (h : i < cs.length) : gl (cs ++ [v]) i = gl cs i := by simp [gl, List.getElem?_append_left h]
theorem gl_app_eq {cs : List (List Int)} {v : List Int} : gl (cs ++ [v]) cs.length = v := by simp [gl]
theorem OL.app {E : TypeId} {w : World} {lo : Nat} {cs : List Value} {n : List (List Int)} {v : Value} {x : List Int} (h : OL E w lo cs (gl n)) (hv : OI E w lo v x) (hl : cs.length = n.length) : OL E w lo (cs ++ [v]) (gl (n ++ [x])) := by
  intro i hi
  rw [List.length_append, List.length_singleton] at hi
  by_cases e : i < cs.length
  · rw [gv_app_lt e, gl_app_lt (by omega)]
    exact h i e
  · obtain rfl : i = cs.length := by omega
    rw [gv_app_eq, hl, gl_app_eq]
    exact hv
theorem Dis.app {cs : List Value} {v : Value} (h : Dis cs) (hv : ∀ i, i < cs.length → Apart (gv cs i) v) : Dis (cs ++ [v]) := by
  intro i j hi hj hne
  rw [List.length_append, List.length_singleton] at hi hj
  by_cases e1 : i < cs.length
  · by_cases e2 : j < cs.length
    · rw [gv_app_lt e1, gv_app_lt e2]; exact h i j e1 e2 hne
    · obtain rfl : j = cs.length := by omega
      rw [gv_app_lt e1, gv_app_eq]; exact hv i e1
  · obtain rfl : i = cs.length := by omega
    rw [gv_app_eq, gv_app_lt (by omega)]
    exact (hv j (by omega)).symm


section
/-- append of one number to a row of the call's own: the literal's block lies at the world's end -/
theorem wpList_pushI {ops : Array Oper} {rest : List Oper} {o : Oper} {a : Act} {Q : Exit → Act → World → Prop} (hgd : o.guard = none) (s x : Operand)
    (ho : o.op = .call { callee := .builtin .append, args := #[s, x], argTypes := #[22, 22] })
    (w : World) (lo : Nat) (v : Value) (xs : List Int) (hs : a.eval s = v) (hown : OI 2 w lo v xs) (y : Int) (hx : a.eval x = .slice (some ⟨w.heap.size, 0, none⟩) 1 1)
    (hn : xs.length ≤ 4194304) (hlo : lo ≤ w.heap.size)
    (h : ∀ v' w', OI 2 w' lo v' (xs ++ [y]) → Below lo w w' → Chg (fun z => v.ownBlock = some z) w w' → (∀ b, v'.ownBlock = some b → v.ownBlock = some b ∨ w.heap.size ≤ b) →
      wpList Tryd.prog ops Q rest (a.put o.dst v') w') : wpList Tryd.prog ops Q (o :: rest) a (w.alloc (.cells #[.int .i64 y] 2)) := by
  obtain ⟨i0, hi0, hz0, hz1, hz2⟩ := info_parts infoI'
  have hba : Below w.heap.size w (w.alloc (.cells #[.int .i64 y] 2)) := below_alloc (Nat.le_refl _) (Below.refl _ _)
  refine wpList_push _ hgd s x 22 ho lo 2 i0 (.int .i64 0) 8 Tryd.underlying22 hi0 hz0 hz1 hz2 rfl v xs.length (xs.map (Value.int .i64)) hs (hown.below hba) w.heap.size (.int .i64 y) hx ((Box.new w _ _).cell 0) rfl hn (by decide) (by simp; omega) ?_
  intro g c w' r hg hat hlt
  have hc := Chg.of_grown hg
  refine h _ w' (OI.app r rfl) ((hba.mono hlo).trans (hc.below (by simp; omega) (fun z hz => (hown.lt z hz).1))) ?_ ?_
  · exact ((Chg.refl (fun _ => False) w).alloc _).trans hc (fun _ h => h.elim) (fun _ h => h)
  · intro b hb
    simp [Value.ownBlock] at hb
    subst hb
    rcases hat with h | h
    · exact .inl h
    · right; simp at h; omega
end
theorem OI.empty {E : TypeId} {w : World} {B : Nat} (hB : B ≤ w.heap.size) : OI E (w.alloc (.cells #[] E)) B (.slice (some ⟨w.heap.size, 0, none⟩) 0 0) [] := World.ownsRow_lit w #[] 0 hB (by decide) rfl
end Go.Proofs.YtkhkdnmpbfmmeaaDoor
namespace Go.Proofs.YtkhkdnmpbfmmeaaDoor
open Go.RowKit

section
variable {w : World} {P : Program}
end
end Go.Proofs.YtkhkdnmpbfmmeaaDoor
