/- toPlaceS: a copy in new memory, no block shared. -/
import Derived.Test.YtgbiceilcmhimaaPlaces2
namespace Go.Proofs.Ytgbiceilcmhimaa
open Go.RowKit

/-- the j-th slot of a list of places laid flat: nothing for a number -/
def fq (ps : List PlaceD) (j : Nat) : List Int := (gq ps (j / 2)).2
/-- a slice of places of the call's own: the row, and the rows in it, none shared -/
def OQS (w : World) (lo : Nat) (v : Value) (ps : List PlaceD) : Prop :=
  ∃ cs, w.ownsRow lo 92 2 v ps.length cs ∧ (∀ i, i < ps.length → gv cs (i * 2) = .int .i64 (gq ps i).1 ∧ OI 2 w lo (gv cs (i * 2 + 1)) (gq ps i).2) ∧ Dis cs
theorem OQS.below {w w' : World} {lo : Nat} {v : Value} {ps : List PlaceD} (h : OQS w lo v ps) (hb : Below w.heap.size w w') : OQS w' lo v ps := by
  obtain ⟨cs, h1, h2, h3⟩ := h
  exact ⟨cs, row_below h1 hb, fun i hi => ⟨(h2 i hi).1, (h2 i hi).2.below hb⟩, h3⟩
theorem OQS.form {w : World} {lo : Nat} {v : Value} {ps : List PlaceD} (h : OQS w lo v ps) : ∃ A c, v = .slice A ps.length c := by
  obtain ⟨cs, h1, _⟩ := h
  obtain ⟨A, c, h2, _⟩ := row_form h1
  exact ⟨A, c, h2⟩
theorem OQS.reads {w : World} {lo n c : Nat} {A : Option Addr} {ps : List PlaceD} (h : OQS w lo (.slice A n c) ps) : RQS w A n c ps := by
  obtain ⟨cs, h1, h2, _⟩ := h
  obtain ⟨A', c', e, hc1, hc2, hg⟩ := row_form h1
  injection e with e1 e2 e3
  subst e1; subst e2; subst e3
  refine ⟨rfl, ⟨hc1, hc2⟩, fun i hi => ?_⟩
  obtain ⟨g, rfl⟩ := hg (by omega)
  have hl := row_len h1
  obtain ⟨o1, o2⟩ := h2 i hi
  have k1 := row_cell h1 (j := i * 2) (by omega)
  have k2 := row_cell h1 (j := i * 2 + 1) (by omega)
  obtain ⟨A2, c2, e2⟩ := o2.form
  rw [o1] at k1
  rw [e2] at o2 k2
  exact ⟨g, 0, A2, _, c2, rfl, by simpa using k1, by simpa using k2, o2.reads⟩

theorem infoPlace : (Try.prog.info? 92).map (fun i => (i.zero, i.size, i.bytes)) = some (some (.agg #[.int .i64 0, .slice none 0 0]), 2, 32) := by kernel_rfl
theorem made_place (n : Nat) : (madeCells (Value.agg #[.int .i64 0, .slice none 0 0]).cells (n * 2)).toList = (List.range (n * 2)).map (fun i => if i % 2 = 0 then .int .i64 0 else .slice none 0 0) := by
  refine List.ext_getElem (by simp [madeCells]) fun i h1 h2 => ?_
  simp only [madeCells, Value.cells, Array.toList_map, List.getElem_map, Array.getElem_toList, Array.getElem_range, List.getElem_range]
  have : i % 2 = 0 ∨ i % 2 = 1 := by omega
  rcases this with h | h <;> simp [h]
theorem gv_made {n i : Nat} (h : i < n * 2) : gv ((List.range (n * 2)).map (fun i => if i % 2 = 0 then Value.int .i64 0 else .slice none 0 0)) i = if i % 2 = 0 then .int .i64 0 else .slice none 0 0 := by
  rw [gv_get (by simpa using h), List.getElem_map, List.getElem_range]

set_option maxHeartbeats 800000 in
theorem toPlaceS (A : Option Addr) (n c : Nat) (ps : List PlaceD) (w : World) (B : Nat) (hB : B ≤ w.heap.size) (ha : RQS w A n c ps) (hn : szQs ps ≤ 1048576) :
    Calls Try.prog 18 #[.slice A n c] w fun e w' => ∃ v, e = .returned v ∧ OQS w' B v ps ∧ Below B w w' := by
  have b1 := ha.cap; have b2 := ha.top
  have hall := sumQ_all ha.len
  have hn' : n ≤ 1048576 := by omega
  have hsz : ∀ k, k < n → szQ (gq ps k) ≤ 1048576 := fun k hk => by
    have h5 := sumQ_mono (ps := ps) (show k + 1 ≤ n by omega)
    rw [sumQ_succ (by rw [ha.len]; exact hk)] at h5
    omega
  have HSZ := Lib.hid hsz
  clear hsz hall
  obtain ⟨ib, hi, hz0, hz1, hz2⟩ := info_parts infoPlace
  go_enter Try.func18, Try.ntmps18
  go_wp2_with (refine wpList_make_full _ rfl (.tmp 6) (.tmp 6) 30 rfl w.heap.size 92 ib (.agg #[.int .i64 0, .slice none 0 0]) 2 Try.underlying30 hi hz0 hz1 .i64 .i64 _ _ n rfl rfl rfl rfl (by rw [hz2]; omega) (by unfold maxLen; omega) (Nat.le_refl _) ?_; intro w1 hown hgrow)
  rw [made_place] at hown
  have hbel : Below w.heap.size w w1 := (Below.refl _ _).grown hgrow (Nat.le_refl _) (by simp)
  have hlt1 : w.heap.size + 1 ≤ w1.heap.size := by
    have := World.ownsRow.lt hown w.heap.size rfl
    omega
  have HG := Lib.hid hgrow
  clear hgrow
  go_loopw [4] (fun i wr => ∃ j : Nat, j ≤ n ∧ i = .int .i64 j ∧ Below w.heap.size w wr ∧ w.heap.size + 1 ≤ wr.heap.size ∧
      ∃ cs, wr.ownsRow w.heap.size 92 2 (.slice (some ⟨w.heap.size, 0, none⟩) n n) n cs ∧ (∀ i, i < j → gv cs (i * 2) = .int .i64 (gq ps i).1 ∧ OI 2 wr (w.heap.size + 1) (gv cs (i * 2 + 1)) (gq ps i).2) ∧
        Dis cs ∧ ∀ i, i < cs.length → ∀ b, (gv cs i).ownBlock = some b → b < wr.heap.size) (fun i _ => n - (intOf i).toNat)
  case atStart =>
    refine ⟨0, Nat.zero_le _, rfl, hbel, hlt1, _, hown, by omega, fun i j hi hj _ => ?_, fun i hi b hb => ?_⟩
    · simp only [List.length_map, List.length_range] at hi
      rw [gv_made hi]
      split <;> exact .inl rfl
    · simp only [List.length_map, List.length_range] at hi
      rw [gv_made hi] at hb
      split at hb <;> simp [Value.ownBlock] at hb
  case round =>
    obtain ⟨j, hj, rfl, hb, hsz1, cs, hrow, hol, hdis, hlow⟩ := hrel
    have HR := Lib.hid hrow
    have HO := Lib.hid hol
    have HD := Lib.hid hdis
    have HW := Lib.hid hlow
    clear hrow hol hdis hown hlow
    by_cases hlt : j < n
    · obtain ⟨b, off, A2, n2, c2, rfl, hc1, hc2, r2⟩ := (ha.keep (keeps_below hb)).at_ hlt
      have hsz := HSZ.out j hlt
      unfold szQ at hsz
      rw [r2.len] at hsz
      go_wp2_with fail
      refine (toPlace _ _ _ _ _ _ _ (Nat.le_refl _) r2 (by omega)).mono ?_; rintro e w2 ⟨v, rfl, hv, hb2⟩
      obtain ⟨A3, c3, rfl⟩ := hv.form
      have hr2 := row_below HR.out hb2
      have hl := row_len HR.out
      have HL := Lib.hid hl
      clear hl
      have k1 := row_cell hr2 (j := j * 2) (by omega)
      have k2 := row_cell hr2 (j := j * 2 + 1) (by omega)
      have f1 := World.ownsRow.frozenAt hr2 (j * 2)
      have f2 := World.ownsRow.frozenAt hr2 (j * 2 + 1)
      have hs1 := (World.ownsRow.stored hr2 (j * 2) (.int .i64 (gq ps j).1)).1
      have hs2 := (World.ownsRow.stored hs1 (j * 2 + 1) (.slice A3 (gq ps j).2.length c3)).1
      have hfar : ∀ {v : Value} {xs : List Int}, OI 2 w2 (w.heap.size + 1) v xs → OI 2 ((w2.setCell ⟨w.heap.size, j * 2, none⟩ (.int .i64 (gq ps j).1)).setCell ⟨w.heap.size, j * 2 + 1, none⟩ (.slice A3 (gq ps j).2.length c3)) (w.heap.size + 1) v xs :=
        fun h => (h.far (p := ⟨w.heap.size, j * 2, none⟩) (by show w.heap.size < _; omega) _).far (p := ⟨w.heap.size, j * 2 + 1, none⟩) (by show w.heap.size < _; omega) _
      have hv' := hfar (hv.more (lo' := w.heap.size + 1) hsz1)
      have hvb : ∀ b, (Value.slice A3 (gq ps j).2.length c3).ownBlock = some b → wr.heap.size ≤ b ∧ b < w2.heap.size := fun b h => hv.lt b h
      have hd3 : Dis ((cs.set (j * 2) (.int .i64 (gq ps j).1)).set (j * 2 + 1) (.slice A3 (gq ps j).2.length c3)) := by
        refine (HD.out.set_ (by rw [HL.out]; omega) (fun i hi _ => Apart.symm (.inl rfl))).set_ (by rw [List.length_set, HL.out]; omega) (fun i hi hne => ?_)
        rw [List.length_set] at hi
        rw [gv_set (by rw [HL.out]; omega)]
        by_cases e : j * 2 = i
        · rw [if_pos e]; exact .inl rfl
        · rw [if_neg e]
          unfold Apart
          cases hu : (gv cs i).ownBlock with
          | none => exact .inl rfl
          | some b =>
            refine .inr fun e' => ?_
            have h1 := HW.out i hi b hu
            have h2 := (hvb b e'.symm).1
            omega
      have g1 : ∀ x, gv ((cs.set (j * 2) (.int .i64 (gq ps j).1)).set (j * 2 + 1) (.slice A3 (gq ps j).2.length c3)) x = if j * 2 + 1 = x then .slice A3 (gq ps j).2.length c3 else if j * 2 = x then .int .i64 (gq ps j).1 else gv cs x :=
        fun x => by rw [gv_set (by rw [List.length_set, HL.out]; omega), gv_set (by rw [HL.out]; omega)]
      have HO3 : Hid (∀ i, i < j + 1 → gv ((cs.set (j * 2) (.int .i64 (gq ps j).1)).set (j * 2 + 1) (.slice A3 (gq ps j).2.length c3)) (i * 2) = .int .i64 (gq ps i).1 ∧ OI 2 ((w2.setCell ⟨w.heap.size, j * 2, none⟩ (.int .i64 (gq ps j).1)).setCell ⟨w.heap.size, j * 2 + 1, none⟩ (.slice A3 (gq ps j).2.length c3)) (w.heap.size + 1) (gv ((cs.set (j * 2) (.int .i64 (gq ps j).1)).set (j * 2 + 1) (.slice A3 (gq ps j).2.length c3)) (i * 2 + 1)) (gq ps i).2) := by
        refine Lib.hid fun i hi => ?_
        rw [g1, g1]
        by_cases e : j = i
        · subst e
          rw [if_neg (by omega), if_pos rfl, if_pos rfl]
          exact ⟨rfl, hv'⟩
        · rw [if_neg (by omega), if_neg (by omega), if_neg (by omega), if_neg (by omega)]
          have := HO.out i (by omega)
          exact ⟨this.1, hfar (this.2.below hb2)⟩
      have HW3 : Hid (∀ i, i < ((cs.set (j * 2) (.int .i64 (gq ps j).1)).set (j * 2 + 1) (.slice A3 (gq ps j).2.length c3)).length → ∀ b, (gv ((cs.set (j * 2) (.int .i64 (gq ps j).1)).set (j * 2 + 1) (.slice A3 (gq ps j).2.length c3)) i).ownBlock = some b → b < w2.heap.size) := by
        refine Lib.hid fun i hi b hb' => ?_
        simp only [List.length_set] at hi
        rw [g1] at hb'
        by_cases e : j * 2 + 1 = i
        · rw [if_pos e] at hb'
          exact (hvb b hb').2
        · rw [if_neg e] at hb'
          by_cases e2 : j * 2 = i
          · rw [if_pos e2] at hb'
            simp [Value.ownBlock] at hb'
          · rw [if_neg e2] at hb'
            have := HW.out i hi b hb'
            have := hb2.size
            omega
      have HR3 := Lib.hid hs2
      have HD3 := Lib.hid hd3
      clear hv' hs1 hs2 hd3 hfar hvb g1
      go_wp2
      go_roundw
      case rel => exact ⟨j + 1, by omega, by go_num, below_set (Nat.le_refl _) (below_set (Nat.le_refl _) (below_then hb2 hb.size hb)), by have := hb2.size; simp; omega, _, HR3.out, HO3.out, HD3.out, by simpa using HW3.out⟩
      case measure => simp [intOf]; omega
    · obtain rfl : j = n := by omega
      go_wp2
      go_ret
      refine ⟨_, rfl, ⟨cs, ?_, fun i hi => ?_, HD.out⟩, hb.mono hB⟩
      · rw [ha.len]; exact row_more HR.out hB
      · have := HO.out i (by rw [← ha.len]; exact hi)
        exact ⟨this.1, this.2.more (by omega)⟩
end Go.Proofs.Ytgbiceilcmhimaa
