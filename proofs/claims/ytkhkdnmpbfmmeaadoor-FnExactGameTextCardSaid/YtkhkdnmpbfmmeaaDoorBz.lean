/- A row of bytes that is frozen behind its cells ([]byte of a text): appends to it. -/
import Derived.Test.YtkhkdnmpbfmmeaaDoorBytes
import Derived.Laws.IdiomStrings
namespace Go.Proofs.YtkhkdnmpbfmmeaaDoor
open Go.RowKit

theorem run_storeCells_fz (P : Program) (g o : Nat) (t : TypeId) (fr : Nat × Nat) : ∀ (vs : List Value) (i : Nat) (cur : Array Value) (w : World), w.heap[g]? = some (.cells cur t fr) → (fr = (0, 0) ∨ cur.size ≤ fr.1) → o + i + vs.length ≤ cur.size → (∀ v ∈ vs, v.oneCell' = true) →
    (storeCells ⟨g, o, none⟩ vs i).run P w = .ok () (w.setRow g (cur.toList.take (o + i) ++ vs ++ cur.toList.drop (o + i + vs.length)).toArray)
  | [], i, cur, w, hg, _, _, _ => by
    simp only [storeCells, List.append_nil, List.length_nil, Nat.add_zero, List.take_append_drop, Array.toArray_toList]
    rw [setRow_self w g cur t fr hg]
    rfl
  | v :: rest, i, cur, w, hg, hz, hl, h1 => by
    have hi : o + i < cur.size := by simp at hl; omega
    have hadd : (⟨g, o, none⟩ : Addr).add i = ⟨g, o + i, none⟩ := by unfold Addr.add; split <;> simp_all
    have hcell : w.cell? ⟨g, o + i, none⟩ = some cur[o + i] := by simp [World.cell?, hg, hi]
    have hfro : w.frozen? ⟨g, o + i, none⟩ = false := by
      simp only [World.frozen?, hg]
      rcases hz with rfl | hz
      · simp
      · obtain ⟨f1, f2⟩ := fr
        have hz' : cur.size ≤ f1 := hz
        have : ¬ f1 ≤ o + i := by omega
        simp [this]
    have hst : (store ((⟨g, o, none⟩ : Addr).add i) v).run P w = .ok () (w.setRow g (cur.setIfInBounds (o + i) v)) := by
      rw [hadd, run_store P w _ v _ (h1 v (by simp)), hcell]
      simp [hfro, setCell_eq_setRow w g (o + i) cur t fr v hg]
    have ih := run_storeCells_fz P g o t fr rest (i + 1) (cur.setIfInBounds (o + i) v) (w.setRow g (cur.setIfInBounds (o + i) v)) (setRow_heap w g cur _ t _ hg) (by simpa using hz) (by simp at hl ⊢; omega) (fun x hx => h1 x (by simp [hx]))
    simp only [storeCells, Sem.run_bind, hst, Result.andThen_ok, ih, setRow_setRow]
    congr 3
    have e := list_seg_step cur.toList (o + i) v rest (by simp at hl ⊢; omega)
    simpa [Array.toList_setIfInBounds, Nat.add_assoc] using e
/-- a row of bytes of the call's own, perhaps frozen behind its cells -/
def OBz (w : World) (lo : Nat) (v : Value) (l : List UInt8) : Prop :=
  ∃ g cap cur fr, v = .slice (some ⟨g, 0, none⟩) l.length cap ∧ lo ≤ g ∧ w.heap[g]? = some (.cells cur 5 fr) ∧ l.length ≤ cap ∧ cap ≤ maxLen ∧ cur.size = cap ∧ (fr = (0, 0) ∨ cap ≤ fr.1) ∧ cur.toList.take l.length = l.map (fun b => Value.int .u8 b.toNat)
section
variable {w w' : World} {lo : Nat} {v : Value} {l : List UInt8}
theorem OBz.below (h : OBz w lo v l) (hb : Below w.heap.size w w') : OBz w' lo v l := by
  obtain ⟨g, cap, cur, fr, h1, h2, h3, h4⟩ := h
  exact ⟨g, cap, cur, fr, h1, h2, (hb.block g (Array.getElem?_eq_some_iff.1 h3).1).trans h3, h4⟩
theorem OBz.lt (h : OBz w lo v l) : ∀ k, v.ownBlock = some k → lo ≤ k ∧ k < w.heap.size := by
  obtain ⟨g, cap, cur, fr, rfl, h2, h3, h4⟩ := h
  intro k hk
  simp [Value.ownBlock] at hk
  subst hk
  exact ⟨h2, (Array.getElem?_eq_some_iff.1 h3).1⟩
theorem OBz.form (h : OBz w lo v l) : ∃ A c, v = .slice A l.length c := by
  obtain ⟨g, cap, cur, fr, rfl, _⟩ := h
  exact ⟨_, _, rfl⟩
theorem OBz.cellAt {g c : Nat} (h : OBz w lo (.slice (some ⟨g, 0, none⟩) l.length c) l) {j : Nat} (hj : j < l.length) : w.cell? ⟨g, j, none⟩ = some (.int .u8 (l[j].toNat : Int)) := by
  obtain ⟨g', cap, cur, fr, e, h2, h3, h4, h5, h6, h7, h8⟩ := h
  injection e with e1 e2 e3
  injection e1 with e1
  injection e1 with e1 _ _
  subst e1
  rw [cell_of_row w g j cur _ fr h3]
  have := congrArg (fun x => x[j]?) h8
  simp only [List.getElem?_take, hj, if_true, List.getElem?_map, List.getElem?_eq_getElem hj, Option.map_some] at this
  simpa using this
theorem OBz.olds {g : Nat} (h : OBz w lo v l) (hg : v.ownBlock = some g) : ∀ j u, (l.map (fun b => Value.int .u8 b.toNat))[j]? = some u → w.cell? ((⟨g, 0, none⟩ : Addr).add j) = some u := by
  intro j u hu
  have h0 := h
  obtain ⟨g', cap, cur, fr, rfl, _⟩ := h0
  simp [Value.ownBlock] at hg
  subst hg
  have hj : j < l.length := by
    have := (List.getElem?_eq_some_iff.1 hu).1
    simpa using this
  rw [add_at, Nat.zero_add, h.cellAt hj]
  simp [List.getElem?_eq_getElem hj] at hu
  rw [← hu]
end
/-- the bytes of a text as a row -/
theorem conv_text (w : World) (t : List UInt8) (ht : t.length ≤ maxLen) : ∃ v w', (convert 9 63 (.string (tx t))).run Tryd.prog w = .ok v w' ∧ OBz w' w.heap.size v t ∧ Below w.heap.size w w' := by
  have hsz : (tx t).size = t.length := tx_size t
  have h := run_bytes_of_string (P := Tryd.prog) w 9 63 5 (tx t) Tryd.underlying9 Tryd.underlying63 Tryd.underlying5
  rw [hsz] at h
  refine ⟨_, _, h, ⟨w.heap.size, _, _, _, rfl, Nat.le_refl _, heap_alloc_new w.drew _, grownCap_ge w t.length 0 _, grownCap_le_maxLen w t.length 0 _ ht, ?_, .inr ?_, ?_⟩, below_alloc (Nat.le_refl _) (below_drewN (Below.refl _ _) 1)⟩
  · have := grownCap_ge w t.length 0 5
    unfold bytesRow
    simp [Array.size_append, hsz]
    omega
  · have := grownCap_ge w t.length 0 5
    unfold bytesRow
    simp [Array.size_append, hsz]
    omega
  · unfold bytesRow
    have e : ((tx t).data.map (fun b => Value.int .u8 b.toNat)).toList = t.map (fun b => Value.int .u8 b.toNat) := by simp [tx]
    rw [Array.toList_append, e, List.take_append_of_le_length (by simp), List.take_of_length_le (by simp)]
theorem app_room_str (w : World) (ty g n cap : Nat) (cur : Array Value) (fr : Nat × Nat) (hg : w.heap[g]? = some (.cells cur 5 fr)) (hz : fr = (0, 0) ∨ cur.size ≤ fr.1) (s : ByteArray) (hroom : n + s.size ≤ cap) (hfit : n + s.size ≤ cur.size) :
    (Builtin.append_ #[63, 9] ty #[.slice (some ⟨g, 0, none⟩) n cap, .string s]).run Tryd.prog w =
      .ok (.slice (some ⟨g, 0, none⟩) (n + s.size) cap) (w.setRow g (cur.toList.take n ++ Lib.strCells s ++ cur.toList.drop (n + s.size)).toArray) := by
  obtain ⟨i0, hi0, hz0, hz1, hz2⟩ := info_parts infoU
  have hf := Lib.run_firstCells_string (P := Tryd.prog) w 1 s
  have hst := run_storeCells_fz Tryd.prog g n 5 fr (Lib.strCells s) 0 cur w hg hz (by simpa [Lib.strCells_length] using hfit) (Lib.strCells_oneCell s)
  simp only [Nat.add_zero, Lib.strCells_length] at hst
  simp [Builtin.append_, run_underlying Tryd.underlying63, run_underlying Tryd.underlying9, sizeOf, typeInfo, hi0, hz1, Builtin.lenOf, hroom, hf, Addr.add_lit, hst]
theorem app_room_row (w : World) (ty g n cap : Nat) (cur : Array Value) (fr : Nat × Nat) (hg : w.heap[g]? = some (.cells cur 5 fr)) (hz : fr = (0, 0) ∨ cur.size ≤ fr.1) (a : Addr) (m c : Nat) (news : List Value) (hl : news.length = m) (hnews : ∀ j u, news[j]? = some u → w.cell? (a.add j) = some u) (h1 : ∀ u ∈ news, u.oneCell' = true)
    (hroom : n + m ≤ cap) (hfit : n + m ≤ cur.size) :
    (Builtin.append_ #[63, 63] ty #[.slice (some ⟨g, 0, none⟩) n cap, .slice (some a) m c]).run Tryd.prog w =
      .ok (.slice (some ⟨g, 0, none⟩) (n + m) cap) (w.setRow g (cur.toList.take n ++ news ++ cur.toList.drop (n + m)).toArray) := by
  subst hl
  obtain ⟨i0, hi0, hz0, hz1, hz2⟩ := info_parts infoU
  have hf := run_firstCells_some (P := Tryd.prog) w 1 news.length a news.length c news (by omega) hnews
  have hst := run_storeCells_fz Tryd.prog g n 5 fr news 0 cur w hg hz (by simpa using hfit) h1
  simp only [Nat.add_zero] at hst
  simp [Builtin.append_, run_underlying Tryd.underlying63, sizeOf, typeInfo, hi0, hz1, Builtin.lenOf, hroom, hf, Addr.add_lit, hst]
/-- what an append leaves: in place, or in a new block -/
theorem obz_place {w : World} {lo g cap : Nat} {cur : Array Value} {fr : Nat × Nat} {l t : List UInt8} {k : Nat} (hlo : lo ≤ g) (hg : w.heap[g]? = some (.cells cur 5 fr)) (hm : cap ≤ maxLen) (hs : cur.size = cap) (hz : fr = (0, 0) ∨ cap ≤ fr.1)
    (ht : cur.toList.take l.length = l.map (fun b => Value.int .u8 b.toNat)) (hroom : l.length + t.length ≤ cap) (hk : k = l.length + t.length) :
    OBz (w.setRow g (cur.toList.take l.length ++ t.map (fun b => Value.int .u8 b.toNat) ++ cur.toList.drop k).toArray) lo (.slice (some ⟨g, 0, none⟩) (l ++ t).length cap) (l ++ t) ∧
      Below lo w (w.setRow g (cur.toList.take l.length ++ t.map (fun b => Value.int .u8 b.toNat) ++ cur.toList.drop k).toArray) ∧
      Chg (fun z => (Value.slice (some ⟨g, 0, none⟩) l.length cap).ownBlock = some z) w (w.setRow g (cur.toList.take l.length ++ t.map (fun b => Value.int .u8 b.toNat) ++ cur.toList.drop k).toArray) := by
  subst hk
  have hc : Chg (fun z => (Value.slice (some ⟨g, 0, none⟩) l.length cap).ownBlock = some z) w (w.setRow g (cur.toList.take l.length ++ t.map (fun b => Value.int .u8 b.toNat) ++ cur.toList.drop (l.length + t.length)).toArray) :=
    ⟨rfl, rfl, rfl, by simp, fun k _ hk => setRow_other w g k _ (fun e => hk (by simp [Value.ownBlock, e]))⟩
  have hglt : g < w.heap.size := (Array.getElem?_eq_some_iff.1 hg).1
  refine ⟨⟨g, cap, _, fr, rfl, hlo, setRow_heap w g cur _ _ _ hg, by rw [List.length_append]; exact hroom, hm, ?_, hz, ?_⟩, hc.below (by omega) (fun z hz => by simp [Value.ownBlock] at hz; omega), hc⟩
  · simp only [List.size_toArray, List.length_append, List.length_take, List.length_drop, Array.length_toList, List.length_map]
    omega
  · rw [ht, ← List.map_append]
    rw [List.take_append_of_le_length (by simp), List.take_of_length_le (by simp)]
theorem obz_new {w : World} {lo old : Nat} {l t : List UInt8} (hlo : lo ≤ w.heap.size) (hm : l.length + t.length ≤ maxLen) :
    OBz (w.drew.alloc (.cells ((l.map (fun b => Value.int .u8 b.toNat)).toArray ++ (t.map (fun b => Value.int .u8 b.toNat)).toArray ++ Builtin.zeroCells (Value.int .u8 0).cells (grownCap w (l.length + t.length) old 5 - (l.length + t.length))) 5)) lo (.slice (some ⟨w.heap.size, 0, none⟩) (l ++ t).length (grownCap w (l.length + t.length) old 5)) (l ++ t) := by
  have hge := grownCap_ge w (l.length + t.length) old 5
  refine ⟨w.heap.size, _, _, (0, 0), rfl, hlo, heap_alloc_new w.drew _, by rw [List.length_append]; exact hge, grownCap_le_maxLen _ _ _ _ hm, ?_, .inl rfl, ?_⟩
  · have hz1 : (Value.int IntKind.u8 0).cells.size = 1 := rfl
    simp only [Array.size_append, List.size_toArray, size_zeroCells, hz1, List.length_map]
    omega
  · simp only [Array.toList_append]
    rw [← List.map_append, List.take_append_of_le_length (by simp), List.take_of_length_le (by simp)]
theorem wp_appZ {o : Oper} {a : Act} {K : Act → World → Prop} {Q : Exit → Act → World → Prop} (s x : Operand)
    (ho : o.op = .call { callee := .builtin .append, args := #[s, x], argTypes := #[63, 9] })
    (w : World) (lo : Nat) (v : Value) (l : List UInt8) (hs : a.eval s = v) (hown : OBz w lo v l) (t : List UInt8) (hx : a.eval x = .string (tx t))
    (hn : l.length ≤ 4194304) (hm : t.length ≤ 4194304) (hlo : lo ≤ w.heap.size)
    (h : ∀ v' w', OBz w' lo v' (l ++ t) → Below lo w w' → Chg (fun z => v.ownBlock = some z) w w' → K (a.put o.dst v') w') : o.wp Tryd.prog a w K Q := by
  obtain ⟨i0, hi0, hz0, hz1, hz2⟩ := info_parts infoU
  have hsz : (tx t).size = t.length := tx_size t
  have hcs : Lib.strCells (tx t) = t.map fun b => Value.int .u8 b.toNat := by unfold Lib.strCells; rw [tx_data]
  have hold := fun g hg => hown.olds (g := g) hg
  obtain ⟨g, cap, cur, fr, rfl, h2, h3, h4, h5, h6, h7, h8⟩ := hown
  unfold Oper.wp execOp
  by_cases hroom : l.length + t.length ≤ cap
  · have hr := app_room_str w o.type g l.length cap cur fr h3 (by rw [h6]; exact h7) (tx t) (by omega) (by omega)
    rw [hcs, hsz] at hr
    obtain ⟨k1, k2, k3⟩ := obz_place (w := w) (lo := lo) (t := t) (k := l.length + t.length) h2 h3 h5 h6 h7 h8 hroom rfl
    simp only [ho, resolve, invoke, builtin, Sem.run_bind, Sem.run_pure, Result.andThen_ok, List.map_toArray, List.map_cons, List.map_nil, hs, hx, hr]
    rw [List.length_append] at k1
    exact h _ _ k1 k2 k3
  · have hr := Lib.run_append_grow_string (P := Tryd.prog) w 63 9 o.type 5 i0 (.int .u8 0) Tryd.underlying63 Tryd.underlying9 hi0 hz0 ⟨g, 0, none⟩ l.length cap (l.map fun b => Value.int .u8 b.toNat) (by rw [hz1]; simp) (hold g rfl) (tx t) (by omega) (by omega) (by rw [hz2]; exact growslice_fits (by omega) (by omega))
    rw [hcs, hsz] at hr
    have k1 := obz_new (w := w) (old := cap) (l := l) (t := t) hlo (by unfold maxLen; omega)
    simp only [ho, resolve, invoke, builtin, Sem.run_bind, Sem.run_pure, Result.andThen_ok, List.map_toArray, List.map_cons, List.map_nil, hs, hx, hr]
    rw [List.length_append] at k1
    have hb : Below w.heap.size w (w.drew.alloc (.cells ((l.map (fun b => Value.int .u8 b.toNat)).toArray ++ (t.map (fun b => Value.int .u8 b.toNat)).toArray ++ Builtin.zeroCells (Value.int .u8 0).cells (grownCap w (l.length + t.length) cap 5 - (l.length + t.length))) 5)) := below_alloc (Nat.le_refl _) (below_drewN (Below.refl _ _) 1)
    exact h _ _ k1 (hb.mono hlo) ⟨hb.os, hb.tape, hb.output, hb.size, fun k hk _ => hb.block k hk⟩
theorem wpList_appZ {ops : Array Oper} {rest : List Oper} {o : Oper} {a : Act} {Q : Exit → Act → World → Prop} (hgd : o.guard = none) (s x : Operand)
    (ho : o.op = .call { callee := .builtin .append, args := #[s, x], argTypes := #[63, 9] })
    (w : World) (lo : Nat) (v : Value) (l : List UInt8) (hs : a.eval s = v) (hown : OBz w lo v l) (t : List UInt8) (hx : a.eval x = .string (tx t))
    (hn : l.length ≤ 4194304) (hm : t.length ≤ 4194304) (hlo : lo ≤ w.heap.size)
    (h : ∀ v' w', OBz w' lo v' (l ++ t) → Below lo w w' → Chg (fun z => v.ownBlock = some z) w w' → wpList Tryd.prog ops Q rest (a.put o.dst v') w') : wpList Tryd.prog ops Q (o :: rest) a w :=
  wpList_plain hgd fun _ hK => wp_appZ s x ho w lo v l hs hown t hx hn hm hlo fun v' w' h1 h2 h3 => hK _ _ (h v' w' h1 h2 h3)
/-- append of one byte -/
theorem wp_pushZ {o : Oper} {a : Act} {K : Act → World → Prop} {Q : Exit → Act → World → Prop} (s x : Operand)
    (ho : o.op = .call { callee := .builtin .append, args := #[s, x], argTypes := #[63, 63] })
    (w : World) (lo : Nat) (v : Value) (l : List UInt8) (hs : a.eval s = v) (hown : OBz w lo v l) (y : UInt8) (yv : Int) (hy : (y.toNat : Int) = yv) (hx : a.eval x = .slice (some ⟨w.heap.size, 0, none⟩) 1 1)
    (hn : l.length ≤ 4194304) (hlo : lo ≤ w.heap.size)
    (h : ∀ v' w', OBz w' lo v' (l ++ [y]) → Below lo w w' → Chg (fun z => v.ownBlock = some z) w w' → K (a.put o.dst v') w') : o.wp Tryd.prog a (w.alloc (.cells #[.int .u8 yv] 5)) K Q := by
  subst hy
  obtain ⟨i0, hi0, hz0, hz1, hz2⟩ := info_parts infoU
  have hba : Below w.heap.size w (w.alloc (.cells #[.int .u8 (y.toNat : Int)] 5)) := below_alloc (Nat.le_refl _) (Below.refl _ _)
  have hca : Chg (fun z => v.ownBlock = some z) w (w.alloc (.cells #[.int .u8 (y.toNat : Int)] 5)) := ⟨hba.os, hba.tape, hba.output, hba.size, fun k hk _ => hba.block k hk⟩
  have hnew : ∀ j u, [Value.int .u8 (y.toNat : Int)][j]? = some u → (w.alloc (.cells #[.int .u8 (y.toNat : Int)] 5)).cell? ((⟨w.heap.size, 0, none⟩ : Addr).add j) = some u := push_news ((Box.new w _ _).cell 0)
  have hown2 := hown.below hba
  have hold := fun g hg => hown2.olds (g := g) hg
  obtain ⟨g, cap, cur, fr, rfl, h2, h3, h4, h5, h6, h7, h8⟩ := hown2
  generalize hw1 : w.alloc (.cells #[.int .u8 (y.toNat : Int)] 5) = w1 at *
  have hlo1 : lo ≤ w1.heap.size := Nat.le_trans hlo hba.size
  unfold Oper.wp execOp
  by_cases hroom : l.length + 1 ≤ cap
  · have hr := app_room_row w1 o.type g l.length cap cur fr h3 (by rw [h6]; exact h7) ⟨w.heap.size, 0, none⟩ 1 1 [.int .u8 (y.toNat : Int)] rfl hnew (by simp [Value.oneCell']) hroom (by omega)
    obtain ⟨k1, k2, k3⟩ := obz_place (w := w1) (lo := lo) (t := [y]) (k := l.length + 1) h2 h3 h5 h6 h7 h8 hroom rfl
    simp only [ho, resolve, invoke, builtin, Sem.run_bind, Sem.run_pure, Result.andThen_ok, List.map_toArray, List.map_cons, List.map_nil, hs, hx, hr]
    rw [List.length_append, List.length_singleton] at k1
    exact h _ _ k1 ((hba.mono hlo).trans k2) (hca.trans k3 (fun _ h => h) (fun _ h => h))
  · have hr := run_append_grow (P := Tryd.prog) w1 63 o.type 5 i0 (.int .u8 0) Tryd.underlying63 hi0 hz0 ⟨g, 0, none⟩ l.length cap (l.map fun b => Value.int .u8 b.toNat) (by rw [hz1]; simp) (hold g rfl) ⟨w.heap.size, 0, none⟩ 1 1 [.int .u8 (y.toNat : Int)] (by rw [hz1]; rfl) hnew (by omega) (by omega) (by rw [hz2]; exact growslice_fits (by omega) (by omega))
    have k1 := obz_new (w := w1) (old := cap) (l := l) (t := [y]) hlo1 (by unfold maxLen; simp; omega)
    simp only [ho, resolve, invoke, builtin, Sem.run_bind, Sem.run_pure, Result.andThen_ok, List.map_toArray, List.map_cons, List.map_nil, hs, hx, hr]
    rw [List.length_append, List.length_singleton] at k1
    have hb : Below w1.heap.size w1 (w1.drew.alloc (.cells ((l.map (fun b => Value.int .u8 b.toNat)).toArray ++ ([y].map (fun b => Value.int .u8 b.toNat)).toArray ++ Builtin.zeroCells (Value.int .u8 0).cells (grownCap w1 (l.length + 1) cap 5 - (l.length + 1))) 5)) := below_alloc (Nat.le_refl _) (below_drewN (Below.refl _ _) 1)
    exact h _ _ k1 ((hba.mono hlo).trans (hb.mono hlo1)) (hca.trans ⟨hb.os, hb.tape, hb.output, hb.size, fun k hk _ => hb.block k hk⟩ (fun _ h => h) (fun _ h => h))
theorem wpList_pushZ {ops : Array Oper} {rest : List Oper} {o : Oper} {a : Act} {Q : Exit → Act → World → Prop} (hgd : o.guard = none) (s x : Operand)
    (ho : o.op = .call { callee := .builtin .append, args := #[s, x], argTypes := #[63, 63] })
    (w : World) (lo : Nat) (v : Value) (l : List UInt8) (hs : a.eval s = v) (hown : OBz w lo v l) (y : UInt8) (yv : Int) (hy : (y.toNat : Int) = yv) (hx : a.eval x = .slice (some ⟨w.heap.size, 0, none⟩) 1 1)
    (hn : l.length ≤ 4194304) (hlo : lo ≤ w.heap.size)
    (h : ∀ v' w', OBz w' lo v' (l ++ [y]) → Below lo w w' → Chg (fun z => v.ownBlock = some z) w w' → wpList Tryd.prog ops Q rest (a.put o.dst v') w') : wpList Tryd.prog ops Q (o :: rest) a (w.alloc (.cells #[.int .u8 yv] 5)) :=
  wpList_plain hgd fun _ hK => wp_pushZ s x ho w lo v l hs hown y yv hy hx hn hlo fun v' w' h1 h2 h3 => hK _ _ (h v' w' h1 h2 h3)
set_option maxRecDepth 100000 in
/-- the text of such a row -/
theorem conv_bytesZ {w : World} {lo : Nat} {A : Option Addr} {n c : Nat} {l : List UInt8} (h : OBz w lo (.slice A n c) l) : (convert 63 9 (.slice A n c)).run Tryd.prog w = .ok (.string (tx l)) w := by
  have hold := h
  obtain ⟨g, cap, cur, fr, e, _⟩ := h
  injection e with e1 e2 e3
  subst e1; subst e2; subst e3
  refine run_convert_bytes_back w _ _ 5 ⟨g, 0, none⟩ c l Tryd.underlying63 Tryd.underlying5 Tryd.underlying9 (fun j hj => ?_)
  rw [add_at, Nat.zero_add, hold.cellAt hj]
end Go.Proofs.YtkhkdnmpbfmmeaaDoor
