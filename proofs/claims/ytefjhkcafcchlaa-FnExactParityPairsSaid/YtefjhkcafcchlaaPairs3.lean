/- toPairS: a copy in new memory, no block shared. -/
import Derived.Test.YtefjhkcafcchlaaPairs2
namespace Go.Proofs.Ytefjhkcafcchlaa
open Go.RowKit

/-- the j-th slice of a list of pairs laid flat -/
def fl (ps : List PairD) (j : Nat) : List Int := if j % 2 = 0 then (gp ps (j / 2)).1 else (gp ps (j / 2)).2
theorem fl_even (ps : List PairD) (k : Nat) : fl ps (k * 2) = (gp ps k).1 := by unfold fl; rw [if_pos (by omega), show k * 2 / 2 = k from by omega]
theorem fl_odd (ps : List PairD) (k : Nat) : fl ps (k * 2 + 1) = (gp ps k).2 := by unfold fl; rw [if_neg (by omega), show (k * 2 + 1) / 2 = k from by omega]
/-- a slice of pairs of the call's own: the row, and the rows in it, none shared -/
def OPS (w : World) (lo : Nat) (v : Value) (ps : List PairD) : Prop :=
  ∃ cs, w.ownsRow lo 128 2 v ps.length cs ∧ OL 2 w lo cs (fl ps) ∧ Dis cs
theorem OPS.below {w w' : World} {lo : Nat} {v : Value} {ps : List PairD} (h : OPS w lo v ps) (hb : Below w.heap.size w w') : OPS w' lo v ps := by
  obtain ⟨cs, h1, h2, h3⟩ := h
  exact ⟨cs, row_below h1 hb, h2.below hb, h3⟩
theorem OPS.form {w : World} {lo : Nat} {v : Value} {ps : List PairD} (h : OPS w lo v ps) : ∃ A c, v = .slice A ps.length c := by
  obtain ⟨cs, h1, _⟩ := h
  obtain ⟨A, c, h2, _⟩ := row_form h1
  exact ⟨A, c, h2⟩
theorem OPS.reads {w : World} {lo n c : Nat} {A : Option Addr} {ps : List PairD} (h : OPS w lo (.slice A n c) ps) : RPS w A n c ps := by
  obtain ⟨cs, h1, h2, _⟩ := h
  obtain ⟨A', c', e, hc1, hc2, hg⟩ := row_form h1
  injection e with e1 e2 e3
  subst e1; subst e2; subst e3
  refine ⟨rfl, ⟨hc1, hc2⟩, fun i hi => ?_⟩
  obtain ⟨g, rfl⟩ := hg (by omega)
  have hl := row_len h1
  have o1 := h2 (i * 2) (by omega)
  have o2 := h2 (i * 2 + 1) (by omega)
  have k1 := row_cell h1 (j := i * 2) (by omega)
  have k2 := row_cell h1 (j := i * 2 + 1) (by omega)
  rw [fl_even] at o1
  rw [fl_odd] at o2
  obtain ⟨A1, c1, e1⟩ := o1.form
  obtain ⟨A2, c2, e2⟩ := o2.form
  rw [e1] at o1 k1
  rw [e2] at o2 k2
  exact ⟨g, 0, A1, _, c1, A2, _, c2, rfl, by simpa using k1, by simpa using k2, o1.reads, o2.reads⟩

theorem infoPair : (Try.prog.info? 128).map (fun i => (i.zero, i.size, i.bytes)) = some (some (.agg #[.slice none 0 0, .slice none 0 0]), 2, 48) := by kernel_rfl
theorem made_two (n : Nat) : (madeCells (Value.agg #[.slice none 0 0, .slice none 0 0]).cells (n * 2)).toList = List.replicate (n * 2) (.slice none 0 0) := by
  refine List.ext_getElem (by simp [madeCells]) fun i h1 h2 => ?_
  simp only [madeCells, Value.cells, Array.toList_map, List.getElem_map, Array.getElem_toList, Array.getElem_range, List.getElem_replicate]
  have : i % 2 = 0 ∨ i % 2 = 1 := by omega
  rcases this with h | h <;> simp [h]

set_option maxHeartbeats 800000 in
theorem toPairS (A : Option Addr) (n c : Nat) (ps : List PairD) (w : World) (B : Nat) (hB : B ≤ w.heap.size) (ha : RPS w A n c ps) (hn : szPs ps ≤ 1048576) :
    Calls Try.prog 78 #[.slice A n c] w fun e w' => ∃ v, e = .returned v ∧ OPS w' B v ps ∧ Below B w w' := by
  have b1 := ha.cap; have b2 := ha.top
  have hall := sumP_all ha.len
  have hn' : n ≤ 1048576 := by omega
  have hsz : ∀ k, k < n → szP (gp ps k) ≤ 1048576 := fun k hk => by
    have h5 := sumP_mono (ps := ps) (show k + 1 ≤ n by omega)
    rw [sumP_succ (by rw [ha.len]; exact hk)] at h5
    omega
  have HSZ := Lib.hid hsz
  clear hsz hall
  obtain ⟨ib, hi, hz0, hz1, hz2⟩ := info_parts infoPair
  go_enter Try.func78, Try.ntmps78
  go_wp2_with (refine wpList_make_full _ rfl (.tmp 6) (.tmp 6) 72 rfl w.heap.size 128 ib (.agg #[.slice none 0 0, .slice none 0 0]) 2 Try.underlying72 hi hz0 hz1 .i64 .i64 _ _ n rfl rfl rfl rfl (by rw [hz2]; omega) (by unfold maxLen; omega) (Nat.le_refl _) ?_; intro w1 hown hgrow)
  rw [made_two] at hown
  have hbel : Below w.heap.size w w1 := (Below.refl _ _).grown hgrow (Nat.le_refl _) (by simp)
  have hlt1 : w.heap.size + 1 ≤ w1.heap.size := by
    have := World.ownsRow.lt hown w.heap.size rfl
    omega
  have HG := Lib.hid hgrow
  clear hgrow
  go_loopw [4] (fun i wr => ∃ j : Nat, j ≤ n ∧ i = .int .i64 j ∧ Below w.heap.size w wr ∧ w.heap.size + 1 ≤ wr.heap.size ∧
      ∃ cs, wr.ownsRow w.heap.size 128 2 (.slice (some ⟨w.heap.size, 0, none⟩) n n) n cs ∧ OL 2 wr (w.heap.size + 1) cs (fun i => if i < j * 2 then fl ps i else []) ∧ Dis cs) (fun i _ => n - (intOf i).toNat)
  case atStart => exact ⟨0, Nat.zero_le _, rfl, hbel, hlt1, _, hown, (OL.nil rfl).congr (fun i _ => by simp), Dis.nil⟩
  case round =>
    obtain ⟨j, hj, rfl, hb, hsz1, cs, hrow, hol, hdis⟩ := hrel
    have HR := Lib.hid hrow
    have HO := Lib.hid hol
    have HD := Lib.hid hdis
    clear hrow hol hdis hown
    by_cases hlt : j < n
    · obtain ⟨b, off, A1, n1, c1, A2, n2, c2, rfl, hc1, hc2, r1, r2⟩ := (ha.keep (keeps_below hb)).at_ hlt
      have hsz := HSZ.out j hlt
      unfold szP at hsz
      rw [r1.len, r2.len] at hsz
      go_wp2_with fail
      refine (toPair _ _ _ _ _ _ _ _ _ _ (Nat.le_refl _) r1 r2 (by omega) (by omega)).mono ?_; rintro e w2 ⟨v, u, rfl, hv, hu, hap, hb2⟩
      obtain ⟨A3, c3, rfl⟩ := hv.form
      obtain ⟨A4, c4, rfl⟩ := hu.form
      have hr2 := row_below HR.out hb2
      have ho2 := HO.out.below hb2
      have hl := row_len HR.out
      have HL := Lib.hid hl
      clear hl
      have k1 := row_cell hr2 (j := j * 2) (by omega)
      have k2 := row_cell hr2 (j := j * 2 + 1) (by omega)
      have f1 := World.ownsRow.frozenAt hr2 (j * 2)
      have f2 := World.ownsRow.frozenAt hr2 (j * 2 + 1)
      have hs1 := (World.ownsRow.stored hr2 (j * 2) (.slice A3 (gp ps j).1.length c3)).1
      have hs2 := (World.ownsRow.stored hs1 (j * 2 + 1) (.slice A4 (gp ps j).2.length c4)).1
      have hx := apart_new HO.out hv (Nat.le_refl _)
      have hy := apart_new HO.out hu (Nat.le_refl _)
      have hv' := ((hv.more (lo' := w.heap.size + 1) hsz1).far (p := ⟨w.heap.size, j * 2, none⟩) (by show w.heap.size < _; omega) (.slice A3 (gp ps j).1.length c3)).far (p := ⟨w.heap.size, j * 2 + 1, none⟩) (by show w.heap.size < _; omega) (.slice A4 (gp ps j).2.length c4)
      have hu' := ((hu.more (lo' := w.heap.size + 1) hsz1).far (p := ⟨w.heap.size, j * 2, none⟩) (by show w.heap.size < _; omega) (.slice A3 (gp ps j).1.length c3)).far (p := ⟨w.heap.size, j * 2 + 1, none⟩) (by show w.heap.size < _; omega) (.slice A4 (gp ps j).2.length c4)
      have ho' := (ho2.far (p := ⟨w.heap.size, j * 2, none⟩) (by show w.heap.size < _; omega) (.slice A3 (gp ps j).1.length c3)).far (p := ⟨w.heap.size, j * 2 + 1, none⟩) (by show w.heap.size < _; omega) (.slice A4 (gp ps j).2.length c4)
      have ho3 := (ho'.set_ (k := j * 2) (by rw [HL.out]; omega) hv').set_ (k := j * 2 + 1) (by rw [List.length_set, HL.out]; omega) hu'
      have hd3 : Dis ((cs.set (j * 2) (.slice A3 (gp ps j).1.length c3)).set (j * 2 + 1) (.slice A4 (gp ps j).2.length c4)) := by
        refine (HD.out.set_ (by rw [HL.out]; omega) (fun i hi _ => hx i hi)).set_ (by rw [List.length_set, HL.out]; omega) (fun i hi hne => ?_)
        rw [List.length_set] at hi
        rw [gv_set (by rw [HL.out]; omega)]
        by_cases e : j * 2 = i
        · rw [if_pos e]; exact hap
        · rw [if_neg e]; exact hy i hi
      have HO3 := Lib.hid ho3
      have HR3 := Lib.hid hs2
      have HD3 := Lib.hid hd3
      clear ho3 ho' hu' hv' hs1 hs2 hd3 hx hy
      go_wp2
      go_roundw
      case rel =>
        refine ⟨j + 1, by omega, by go_num, below_set (Nat.le_refl _) (below_set (Nat.le_refl _) (below_then hb2 hb.size hb)), by have := hb2.size; simp; omega, _, HR3.out, HO3.out.congr (fun i hi => ?_), HD3.out⟩
        simp only [List.length_set, HL.out] at hi
        by_cases e1 : j * 2 + 1 = i
        · subst e1
          rw [if_pos rfl, if_pos (by omega), fl_odd]
        · rw [if_neg e1]
          by_cases e2 : j * 2 = i
          · subst e2
            rw [if_pos rfl, if_pos (by omega), fl_even]
          · rw [if_neg e2]
            by_cases e3 : i < j * 2
            · rw [if_pos e3, if_pos (by omega)]
            · rw [if_neg e3, if_neg (by omega)]
      case measure => simp [intOf]; omega
    · obtain rfl : j = n := by omega
      go_wp2
      go_ret
      refine ⟨_, rfl, ⟨cs, ?_, (HO.out.congr (fun i hi => ?_)).more (by omega), HD.out⟩, hb.mono hB⟩
      · rw [ha.len]; exact row_more HR.out hB
      · rw [row_len HR.out] at hi; rw [if_pos hi]
end Go.Proofs.Ytefjhkcafcchlaa
