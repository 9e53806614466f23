/- Rows of bytes of the call's own; append of a text. -/
import Derived.Test.YtkhkdnmpbfmmeaaDoorTxtL
import Derived.Test.YtkhkdnmpbfmmeaaDoorApp
import Derived.Lib.AppendStr
import Derived.Lib.BufferRead
namespace Go.Proofs.YtkhkdnmpbfmmeaaDoor
open Go.RowKit

/-- a row of bytes of the call's own -/
def OBy (w : World) (lo : Nat) (v : Value) (l : List UInt8) : Prop := w.ownsRow lo 5 1 v l.length (l.map fun b => Value.int .u8 b.toNat)
section
variable {w w' : World} {lo : Nat} {v : Value} {l : List UInt8}
theorem OBy.form (h : OBy w lo v l) : ∃ A c, v = .slice A l.length c := by
  rcases h.2 with ⟨rfl, hn⟩ | ⟨g, cap, cur, rfl, _⟩
  · exact ⟨none, 0, by rw [hn]⟩
  · exact ⟨_, _, rfl⟩
theorem OBy.below (h : OBy w lo v l) (hb : Below w.heap.size w w') : OBy w' lo v l := row_below h hb
theorem OBy.more {lo' : Nat} (h : OBy w lo v l) (hl : lo' ≤ lo) : OBy w lo' v l := row_more h hl
theorem OBy.lt (h : OBy w lo v l) : ∀ k, v.ownBlock = some k → lo ≤ k ∧ k < w.heap.size := World.ownsRow.lt h
theorem OBy.cap {A : Option Addr} {n c : Nat} (h : OBy w lo (.slice A n c) l) : n = l.length ∧ n ≤ c ∧ c ≤ 9223372036854775807 := by
  rcases h.2 with ⟨h1, hn⟩ | ⟨g, cap, cur, h1, _, _, h2, h3, _⟩
  · injection h1 with _ h2 h3; omega
  · injection h1 with _ h4 h5; unfold maxLen at h3; omega
end
theorem OBy.empty {w : World} {B : Nat} (hB : B ≤ w.heap.size) : OBy (w.alloc (.cells #[] 5)) B (.slice (some ⟨w.heap.size, 0, none⟩) 0 0) [] := World.ownsRow_lit w #[] 0 hB (by decide) rfl
theorem infoU : (Tryd.prog.info? 5).map (fun i => (i.zero, i.size, i.bytes)) = some (some (.int .u8 0), 1, 1) := by kernel_rfl
/-- append of a text's bytes -/
theorem wp_appStr {o : Oper} {a : Act} {K : Act → World → Prop} {Q : Exit → Act → World → Prop} (s x : Operand)
    (ho : o.op = .call { callee := .builtin .append, args := #[s, x], argTypes := #[63, 9] })
    (w : World) (lo : Nat) (v : Value) (l : List UInt8) (hs : a.eval s = v) (hown : OBy w lo v l) (t : List UInt8) (hx : a.eval x = .string (tx t))
    (hn : l.length ≤ 4194304) (hm : t.length ≤ 4194304) (hlo : lo ≤ w.heap.size)
    (h : ∀ v' w', OBy w' lo v' (l ++ t) → Below lo w w' → Chg (fun z => v.ownBlock = some z) w w' → K (a.put o.dst v') w') : o.wp Tryd.prog a w K Q := by
  obtain ⟨i0, hi0, hz0, hz1, hz2⟩ := info_parts infoU
  have hsz : (tx t).size = t.length := tx_size t
  obtain ⟨v', w', hrun, h2, h3, _⟩ := Lib.run_append_own_string (P := Tryd.prog) w lo 63 9 o.type 5 i0 Tryd.underlying63 Tryd.underlying9 hi0 hz0 hz1 hz2 v l.length _ hown (tx t) (by unfold maxLen; omega) (by omega) hlo
  unfold Oper.wp execOp
  simp only [ho, resolve, invoke, builtin, Sem.run_bind, Sem.run_pure, Result.andThen_ok, List.map_toArray, List.map_cons, List.map_nil, hs, hx, hrun]
  refine h v' w' ?_ ((Chg.of_grown h3).below hlo (fun z hz => (hown.lt z hz).1)) (Chg.of_grown h3)
  unfold OBy
  rw [List.length_append, List.map_append]
  rw [hsz] at h2
  have e : Lib.strCells (tx t) = t.map fun b => Value.int .u8 b.toNat := by unfold Lib.strCells; rw [tx_data]
  rw [e] at h2
  exact h2
/-- append of one byte -/
theorem wpList_pushU {ops : Array Oper} {rest : List Oper} {o : Oper} {a : Act} {Q : Exit → Act → World → Prop} (hgd : o.guard = none) (s x : Operand)
    (ho : o.op = .call { callee := .builtin .append, args := #[s, x], argTypes := #[63, 63] })
    (w : World) (lo : Nat) (v : Value) (l : List UInt8) (hs : a.eval s = v) (hown : OBy w lo v l) (y : UInt8) (yv : Int) (hy : (y.toNat : Int) = yv) (hx : a.eval x = .slice (some ⟨w.heap.size, 0, none⟩) 1 1)
    (hn : l.length ≤ 4194304) (hlo : lo ≤ w.heap.size)
    (h : ∀ v' w', OBy w' lo v' (l ++ [y]) → Below lo w w' → Chg (fun z => v.ownBlock = some z) w w' → wpList Tryd.prog ops Q rest (a.put o.dst v') w') : wpList Tryd.prog ops Q (o :: rest) a (w.alloc (.cells #[.int .u8 yv] 5)) := by
  subst hy
  obtain ⟨i0, hi0, hz0, hz1, hz2⟩ := info_parts infoU
  have hba : Below w.heap.size w (w.alloc (.cells #[.int .u8 (y.toNat : Int)] 5)) := below_alloc (Nat.le_refl _) (Below.refl _ _)
  refine wpList_push _ hgd s x 63 ho lo 5 i0 (.int .u8 0) 1 Tryd.underlying63 hi0 hz0 hz1 hz2 rfl v l.length _ hs (row_below hown hba) w.heap.size (.int .u8 (y.toNat : Int)) hx ((Box.new w _ _).cell 0) rfl hn (by decide) (by simp; omega) ?_
  intro g c w' r hg hat hlt
  have hc := Chg.of_grown hg
  refine h _ w' ?_ ((hba.mono hlo).trans (hc.below (by simp; omega) (fun z hz => (hown.lt z hz).1))) ?_
  · unfold OBy
    rw [List.length_append, List.length_singleton, List.map_append]
    exact r
  · exact ((Chg.refl (fun _ => False) w).alloc _).trans hc (fun _ h => h.elim) (fun _ h => h)
set_option maxRecDepth 100000 in
/-- the text of a row of bytes -/
theorem conv_bytes {w : World} {lo : Nat} {A : Option Addr} {n c : Nat} {l : List UInt8} (h : OBy w lo (.slice A n c) l) : (convert 63 9 (.slice A n c)).run Tryd.prog w = .ok (.string (tx l)) w := by
  obtain ⟨hn, _⟩ := h.cap
  rcases h.2 with ⟨h1, h0⟩ | ⟨g, cap, cur, h1, _⟩
  · injection h1 with e1 e2 e3
    subst e1; subst e2; subst e3
    have hl : l = [] := List.eq_nil_of_length_eq_zero h0
    subst hl
    exact Lib.run_convert_nil_bytes w _ _ 5 0 Tryd.underlying63 Tryd.underlying5 Tryd.underlying9
  · injection h1 with e1 e2 e3
    subst e1; subst e2; subst e3
    refine run_convert_bytes_back w _ _ 5 ⟨g, 0, none⟩ c l Tryd.underlying63 Tryd.underlying5 Tryd.underlying9 (fun j hj => ?_)
    have := World.ownsRow.cellAt h j (by omega)
    rw [add_at, Nat.zero_add, this]
    simp [hj]
end Go.Proofs.YtkhkdnmpbfmmeaaDoor
