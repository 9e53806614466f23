/- Arenas at the law's border: sz, to, mark, held, eq; rows of an arena of the call's own. -/
import Derived.Test.YtkhkdnmpbfmmeaaDoorArena
import Derived.Test.YtkhkdnmpbfmmeaaDoorUse
import Derived.Test.YtkhkdnmpbfmmeaaDoorFn4
import Derived.Deep.OwnRows
namespace Go.Proofs.YtkhkdnmpbfmmeaaDoor
open Go.RowKit

theorem RAv.ri {w : World} {A0 A1 : Option Addr} {n0 c0 n1 c1 : Nat} {o : List Int} {n : List (List Int)} (h : RAv w (.slice A0 n0 c0) (.slice A1 n1 c1) o n) : RI w A0 n0 c0 o := by
  obtain ⟨⟨A, m, c, e, hr⟩, _⟩ := h
  injection e with e1 e2 e3
  subst e1; subst e2; subst e3
  exact hr
theorem RAv.rii {w : World} {A0 A1 : Option Addr} {n0 c0 n1 c1 : Nat} {o : List Int} {n : List (List Int)} (h : RAv w (.slice A0 n0 c0) (.slice A1 n1 c1) o n) : RII w A1 n1 c1 n := by
  obtain ⟨_, A, m, c, e, hr⟩ := h
  injection e with e1 e2 e3
  subst e1; subst e2; subst e3
  exact hr
theorem RAv.form {w : World} {s0 s1 : Value} {o : List Int} {n : List (List Int)} (h : RAv w s0 s1 o n) : ∃ A0 n0 c0 A1 n1 c1, s0 = .slice A0 n0 c0 ∧ s1 = .slice A1 n1 c1 := by
  obtain ⟨⟨A, m, c, e, _⟩, A', m', c', e', _⟩ := h
  exact ⟨A, m, c, A', m', c', e, e'⟩
theorem RAv.of {w : World} {A0 A1 : Option Addr} {n0 c0 n1 c1 : Nat} {o : List Int} {n : List (List Int)} (h : RI w A0 n0 c0 o) (k : RII w A1 n1 c1 n) : RAv w (.slice A0 n0 c0) (.slice A1 n1 c1) o n := ⟨⟨_, _, _, rfl, h⟩, _, _, _, rfl, k⟩
/-- an arena of the call's own -/
def OArn (w : World) (lo : Nat) (s0 s1 : Value) (z : ArD) : Prop := ∃ cs, OAr w lo s0 s1 cs z.1 z.2 ∧ Dis (s0 :: cs)
section
variable {w w' wb : World} {lo lo' : Nat} {s0 s1 : Value} {z : ArD}
theorem OArn.form (h : OArn w lo s0 s1 z) : ∃ A0 c0 A1 c1, s0 = .slice A0 z.1.length c0 ∧ s1 = .slice A1 z.2.length c1 := by
  obtain ⟨cs, ⟨h0, h1, _⟩, _⟩ := h
  obtain ⟨A0, c0, e0⟩ := h0.form
  obtain ⟨A1, c1, e1, _⟩ := row_form h1
  exact ⟨A0, c0, A1, c1, e0, e1⟩
theorem OArn.reads (h : OArn w lo s0 s1 z) : RAv w s0 s1 z.1 z.2 := by
  obtain ⟨cs, h, _⟩ := h
  exact h.reads
theorem OArn.hold (h : OArn wb lo s0 s1 z) (f : Far lo wb w) : OArn w lo s0 s1 z := by
  obtain ⟨cs, h, hd⟩ := h
  exact ⟨cs, h.hold f, hd⟩
theorem OArn.below (h : OArn w lo s0 s1 z) (hb : Below w.heap.size w w') : OArn w' lo s0 s1 z := by
  obtain ⟨cs, h, hd⟩ := h
  exact ⟨cs, h.below hb, hd⟩
theorem OArn.more (h : OArn w lo s0 s1 z) (hl : lo' ≤ lo) : OArn w lo' s0 s1 z := by
  obtain ⟨cs, h, hd⟩ := h
  exact ⟨cs, h.more hl, hd⟩
end

/-! ### sizes -/
theorem tot_all {xs : List (List Int)} {k : Nat} (h : xs.length = k) : tot (xs.take k) = tot xs := by rw [List.take_of_length_le (by omega)]
set_option maxRecDepth 100000 in
set_option maxHeartbeats 400000 in
theorem szGrid (A : Option Addr) (m c : Nat) (xs : List (List Int)) (l : Int) (w : World) (ha : RII w A m c xs) (h0 : 0 ≤ l) (h1 : l ≤ 1048576) :
    Calls Tryd.prog 91 #[.slice A m c, .int .i64 l] w fun e w' => e = .returned (.int .i64 (szF l (xs.length + tot xs))) ∧ Qt w w' := by
  have b1 := ha.cap; have b2 := ha.top
  have HL := Lib.hid ha.len
  have htl := tot_le xs
  by_cases hm : (m : Int) ≤ l
  · go_enter Tryd.func91, Tryd.ntmps91
    go_wp2
    go_loopw [1, 5] (fun s i wr => ∃ (k : Nat) (r : Int), k ≤ m ∧ i = .int .i64 k ∧ s = .int .i64 r ∧ 0 ≤ r ∧ r ≤ l ∧ r = l - m - tot (xs.take k) ∧ ∃ q, wr = w.drewN q) (fun _ i _ => m - (intOf i).toNat)
    case atStart => exact ⟨0, l - m, Nat.zero_le _, rfl, rfl, by omega, by omega, by simp [tot], 0, rfl⟩
    case round =>
      obtain ⟨k, r, hk, rfl, rfl, hr0, hr1, hr, q, rfl⟩ := hrel
      have HR := Lib.hid hr
      clear hr
      by_cases hlt : k < m
      · obtain ⟨b, off, A1, n1, c1, rfl, hc1, r1⟩ := ha.at_ hlt
        have t1 := r1.cap; have t2 := r1.top
        have hs : tot (xs.take (k + 1)) = tot (xs.take k) + n1 := by rw [tot_take (by rw [HL.out]; exact hlt), r1.len]
        have HS := Lib.hid hs
        clear hs
        by_cases h2 : (n1 : Int) ≤ r
        · have E1 := Lib.hid (szF_yes h2)
          go_wp2_with fail
          refine (szInts _ _ _ _ _ hr0 (by omega) (by omega)).mono ?_; rintro e w1 ⟨rfl, q1, rfl⟩
          rw [E1.out]
          go_wp2
          go_roundw
          case rel => exact ⟨k + 1, r - n1, by omega, by go_num, rfl, by omega, by omega, by rw [HS.out, HR.out]; omega, _, rfl⟩
          case measure => simp [intOf]; omega
        · have E1 := Lib.hid (szF_no h2)
          have E2 := Lib.hid (show szF l (xs.length + tot xs) = -1 from szF_no (by
            have h5 := htl (k + 1)
            have h6 := HS.out
            have h7 := HR.out
            have h8 := HL.out
            omega))
          go_wp2_with fail
          refine (szInts _ _ _ _ _ hr0 (by omega) (by omega)).mono ?_; rintro e w1 ⟨rfl, q1, rfl⟩
          rw [E1.out]
          go_wp2
          go_ret
          exact ⟨ret_i E2.out.symm, _, rfl⟩
      · obtain rfl : k = m := by omega
        have E2 := Lib.hid (show szF l (xs.length + tot xs) = r from by
          have h7 := HR.out
          rw [tot_all HL.out] at h7
          rw [szF_yes (by rw [HL.out]; omega), HL.out, h7]; omega)
        go_wp2
        go_ret
        exact ⟨ret_i E2.out.symm, _, rfl⟩
  · have E2 := Lib.hid (show szF l (xs.length + tot xs) = -1 from szF_no (by rw [HL.out]; omega))
    go_enter Tryd.func91, Tryd.ntmps91
    go_wp2
    go_ret
    exact ⟨ret_i E2.out.symm, Qt.refl _⟩

def szAr (z : ArD) : Nat := z.1.length + (z.2.length + tot z.2)
theorem szF_three {l : Int} {n m : Nat} (_h : (n : Int) ≤ l) : szF (l - n) m = szF l (n + m : Nat) := by
  by_cases h2 : (m : Int) ≤ l - n
  · rw [szF_yes h2, szF_yes (by omega)]; omega
  · rw [szF_no h2, szF_no (by omega)]
set_option maxRecDepth 100000 in
set_option maxHeartbeats 400000 in
theorem szArena (s0 s1 : Value) (z : ArD) (l : Int) (w : World) (B : Nat) (hB : B ≤ w.heap.size) (ha : RAv w s0 s1 z.1 z.2) (h0 : 0 ≤ l) (h1 : l ≤ 1048576) :
    Calls Tryd.prog 69 #[.agg #[s0, s1], .int .i64 l] w fun e w' => e = .returned (.int .i64 (szF l (szAr z : Nat))) ∧ Below B w w' := by
  obtain ⟨A0, n0, c0, A1, n1, c1, rfl, rfl⟩ := ha.form
  have hr := ha.ri; have hrr := ha.rii
  have b1 := hr.cap; have b2 := hr.top; have b3 := hrr.cap; have b4 := hrr.top
  have HL := Lib.hid hr.len; have HM := Lib.hid hrr.len
  have hba : Below w.heap.size w (w.alloc (.cells #[.slice A0 n0 c0, .slice A1 n1 c1] 47)) := below_alloc (Nat.le_refl _) (Below.refl _ _)
  have bx := Box.new w 47 #[.slice A0 n0 c0, .slice A1 n1 c1]
  have q0 := bx.d0; have q1 := bx.d1
  by_cases hn : (n0 : Int) ≤ l
  · have E1 := Lib.hid (szF_yes hn)
    have E2 := Lib.hid (show szF (l - n0) (z.2.length + tot z.2) = szF l (szAr z : Nat) by unfold szAr; rw [HL.out]; exact szF_three hn)
    go_enter Tryd.func69, Tryd.ntmps69
    go_wp2_with fail
    refine (szInts _ _ _ _ _ h0 h1 (by omega)).mono ?_; rintro e w1 ⟨rfl, hq1⟩
    rw [E1.out]
    have hb1 := below_qt hq1 hba
    have bx1 := bx.below (below_qt hq1 (Below.refl _ _)) bx.lt
    have q10 := bx1.d0; have q11 := bx1.d1
    go_wp2_with fail
    refine (szGrid _ _ _ _ _ _ (hrr.keep (keeps_below hb1)) (by omega) (by omega)).mono ?_; rintro e w2 ⟨rfl, hq2⟩
    rw [E2.out]
    have hb2 := below_qt hq2 hb1
    obtain ⟨G, hG⟩ : ∃ G, szF l (szAr z : Nat) = G := ⟨_, rfl⟩
    rw [hG]
    have HG := Lib.hid hG
    have hG1 : G = -1 ∨ 0 ≤ G := by
      by_cases h3 : ((szAr z : Nat) : Int) ≤ l
      · rw [szF_yes h3] at hG; right; omega
      · rw [szF_no h3] at hG; left; omega
    clear hG E2
    rcases hG1 with rfl | hG1
    · go_wp2
      go_ret
      exact ⟨ret_i HG.out.symm, hb2.mono hB⟩
    · go_wp2
      go_ret
      exact ⟨ret_i HG.out.symm, hb2.mono hB⟩
  · have E1 := Lib.hid (szF_no hn)
    have E2 := Lib.hid (show szF l (szAr z : Nat) = -1 from szF_no (by unfold szAr; rw [HL.out]; omega))
    clear hn
    go_enter Tryd.func69, Tryd.ntmps69
    go_wp2_with fail
    refine (szInts _ _ _ _ _ h0 h1 (by omega)).mono ?_; rintro e w1 ⟨rfl, hq1⟩
    rw [E1.out]
    go_wp2
    go_ret
    exact ⟨ret_i E2.out.symm, (below_qt hq1 hba).mono hB⟩

/-! ### copies -/
theorem infoII' : (Tryd.prog.info? 22).map (fun i => (i.zero, i.size, i.bytes)) = some (some (.slice none 0 0), 1, 24) := by kernel_rfl
theorem made_row (n : Nat) : (madeCells (Value.slice none 0 0).cells (n * 1)).toList = List.replicate n (.slice none 0 0) := by
  rw [show (Value.slice none 0 0).cells = #[Value.slice none 0 0] from rfl, Nat.mul_one, toList_madeCells_one]
set_option maxRecDepth 100000 in
set_option maxHeartbeats 800000 in
theorem toGrid (A : Option Addr) (n c : Nat) (xs : List (List Int)) (w : World) (B : Nat) (hB : B ≤ w.heap.size) (ha : RII w A n c xs) (hn : xs.length + tot xs ≤ 1048576) :
    Calls Tryd.prog 94 #[.slice A n c] w fun e w' => ∃ v cs, e = .returned v ∧ w'.ownsRow B 22 1 v xs.length cs ∧ OL 2 w' B cs (gl xs) ∧ Dis cs ∧ Below B w w' := by
  have b1 := ha.cap; have b2 := ha.top
  have HL := Lib.hid ha.len
  have hn' : n ≤ 1048576 := by have := HL.out; omega
  have hsz : ∀ k, k < n → (gl xs k).length ≤ 1048576 := by
    intro k hk
    have h5 := tot_le xs (k + 1)
    rw [tot_take (by rw [HL.out]; exact hk)] at h5
    omega
  have HSZ := Lib.hid hsz
  clear hsz
  obtain ⟨ib, hi, hz0, hz1, hz2⟩ := info_parts infoII'
  go_enter Tryd.func94, Tryd.ntmps94
  go_wp2_with (refine wpList_make_full _ rfl (.tmp 6) (.tmp 6) 45 rfl w.heap.size 22 ib (.slice none 0 0) 1 Tryd.underlying45 hi hz0 hz1 .i64 .i64 _ _ n rfl rfl rfl rfl (by rw [hz2]; omega) (by unfold maxLen; omega) (Nat.le_refl _) ?_; intro w1 hown hgrow)
  rw [made_row] at hown
  have hbel : Below w.heap.size w w1 := (Below.refl _ _).grown hgrow (Nat.le_refl _) (by simp)
  have hlt1 : w.heap.size + 1 ≤ w1.heap.size := by
    have := World.ownsRow.lt hown w.heap.size rfl
    omega
  clear hgrow
  go_loopw [4] (fun i wr => ∃ j : Nat, j ≤ n ∧ i = .int .i64 j ∧ Below w.heap.size w wr ∧ w.heap.size + 1 ≤ wr.heap.size ∧
      ∃ cs, wr.ownsRow w.heap.size 22 1 (.slice (some ⟨w.heap.size, 0, none⟩) n n) n cs ∧ OL 2 wr (w.heap.size + 1) cs (fun i => if i < j then gl xs i else []) ∧ Dis cs) (fun i _ => n - (intOf i).toNat)
  case atStart => exact ⟨0, Nat.zero_le _, rfl, hbel, hlt1, _, hown, (OL.nil rfl).congr (fun i _ => by simp), Dis.nil⟩
  case round =>
    obtain ⟨j, hj, rfl, hb, hsz1, cs, hrow, hol, hdis⟩ := hrel
    have HR := Lib.hid hrow
    have HO := Lib.hid hol
    have HD := Lib.hid hdis
    clear hrow hol hdis hown
    by_cases hlt : j < n
    · obtain ⟨b, off, A1, n1, c1, rfl, hc1, r1⟩ := (ha.keep (keeps_below hb)).at_ hlt
      have hsz := HSZ.out j hlt
      rw [r1.len] at hsz
      go_wp2_with fail
      refine (toInts _ _ _ _ _ _ (Nat.le_refl _) r1 hsz).mono ?_; rintro e w2 ⟨v, rfl, hv, hb2⟩
      obtain ⟨A3, c3, rfl⟩ := hv.form
      have hr2 := row_below HR.out hb2
      have ho2 := HO.out.below hb2
      have hl := row_len HR.out
      have HLC := Lib.hid hl
      clear hl
      have k1 := row_cell hr2 (j := j) (by omega)
      have f1 := World.ownsRow.frozenAt hr2 j
      have hs1 := (World.ownsRow.stored hr2 j (.slice A3 (gl xs j).length c3)).1
      have hx := apart_new HO.out hv (Nat.le_refl _)
      have hv' := (hv.more (lo' := w.heap.size + 1) hsz1).far (p := ⟨w.heap.size, j, none⟩) (by show w.heap.size < _; omega) (.slice A3 (gl xs j).length c3)
      have ho' := ho2.far (p := ⟨w.heap.size, j, none⟩) (by show w.heap.size < _; omega) (.slice A3 (gl xs j).length c3)
      have HO3 := Lib.hid (ho'.set_ (k := j) (by rw [HLC.out]; omega) hv')
      have HR3 := Lib.hid hs1
      have HD3 := Lib.hid (HD.out.set_ (k := j) (by rw [HLC.out]; omega) (fun i hi _ => hx i hi))
      clear ho' hv' hs1 hx
      go_wp2
      go_roundw
      case rel =>
        refine ⟨j + 1, by omega, by go_num, below_set (Nat.le_refl _) (below_then hb2 hb.size hb), by have := hb2.size; simp; omega, _, HR3.out, HO3.out.congr (fun i hi => ?_), HD3.out⟩
        by_cases e1 : j = i
        · subst e1
          rw [if_pos rfl, if_pos (by omega)]
        · rw [if_neg e1]
          by_cases e3 : i < j
          · rw [if_pos e3, if_pos (by omega)]
          · rw [if_neg e3, if_neg (by omega)]
      case measure => simp [intOf]; omega
    · obtain rfl : j = n := by omega
      go_wp2
      go_ret
      refine ⟨_, cs, rfl, ?_, (HO.out.congr (fun i hi => ?_)).more (by omega), HD.out, hb.mono hB⟩
      · rw [HL.out]; exact row_more HR.out hB
      · rw [row_len HR.out] at hi; rw [if_pos (by omega)]

set_option maxRecDepth 100000 in
set_option maxHeartbeats 800000 in
theorem toArena (s0 s1 : Value) (z : ArD) (w : World) (B : Nat) (hB : B ≤ w.heap.size) (ha : RAv w s0 s1 z.1 z.2) (hn : szAr z ≤ 1048576) :
    Calls Tryd.prog 72 #[.agg #[s0, s1]] w fun e w' => ∃ t0 t1, e = .returned (.agg #[t0, t1]) ∧ OArn w' B t0 t1 z ∧ Below B w w' := by
  obtain ⟨A0, n0, c0, A1, n1, c1, rfl, rfl⟩ := ha.form
  have hr := ha.ri; have hrr := ha.rii
  have HL := Lib.hid hr.len; have HM := Lib.hid hrr.len
  have hn0 : n0 ≤ 1048576 := by have := HL.out; unfold szAr at hn; omega
  have hn1 : z.2.length + tot z.2 ≤ 1048576 := by unfold szAr at hn; omega
  have hba : Below w.heap.size w (((w.alloc (.cells #[.slice A0 n0 c0, .slice A1 n1 c1] 47)).alloc (.cells #[.slice none 0 0, .slice none 0 0] 52)).alloc (.cells #[.slice none 0 0, .slice none 0 0] 52)) := below_alloc (Nat.le_refl _) (below_alloc (Nat.le_refl _) (below_alloc (Nat.le_refl _) (Below.refl _ _)))
  have bx := ((Box.new w 47 #[.slice A0 n0 c0, .slice A1 n1 c1]).alloc (.cells #[.slice none 0 0, .slice none 0 0] 52)).alloc (.cells #[.slice none 0 0, .slice none 0 0] 52)
  have br : Box (((w.alloc (.cells #[.slice A0 n0 c0, .slice A1 n1 c1] 47)).alloc (.cells #[.slice none 0 0, .slice none 0 0] 52)).alloc (.cells #[.slice none 0 0, .slice none 0 0] 52)) (w.heap.size + 1) 52 #[.slice none 0 0, .slice none 0 0] := (Box.new' (by simp)).alloc _
  have bo : Box (((w.alloc (.cells #[.slice A0 n0 c0, .slice A1 n1 c1] 47)).alloc (.cells #[.slice none 0 0, .slice none 0 0] 52)).alloc (.cells #[.slice none 0 0, .slice none 0 0] 52)) (w.heap.size + 1 + 1) 52 #[.slice none 0 0, .slice none 0 0] := Box.new' (by simp)
  have hsz : w.heap.size + 3 ≤ (((w.alloc (.cells #[.slice A0 n0 c0, .slice A1 n1 c1] 47)).alloc (.cells #[.slice none 0 0, .slice none 0 0] 52)).alloc (.cells #[.slice none 0 0, .slice none 0 0] 52)).heap.size := by simp
  have q0 := bx.d0; have q1 := bx.d1
  go_enter Tryd.func72, Tryd.ntmps72
  go_wp2_with fail
  refine (toInts _ _ _ _ _ _ (Nat.le_refl _) (hr.keep (keeps_below hba)) hn0).mono ?_; rintro e w1 ⟨v0, rfl, ho0, hb1⟩
  obtain ⟨A2, c2, rfl⟩ := ho0.form
  have hw1 := below_then hb1 hba.size hba
  have bx1 := bx.below hb1 bx.lt
  have br1 := br.below hb1 br.lt
  have bo1 := bo.below hb1 bo.lt
  have hz1 := hb1.size
  have hs1 : w.heap.size + 3 ≤ w1.heap.size := by omega
  replace ho0 := ho0.more (lo' := w.heap.size + 3) hsz
  have bo2 := bo1.set_ 0 (.slice A2 z.1.length c2)
  have bx2 := bx1.far (p := ⟨w.heap.size + 1 + 1, 0, none⟩) (by show w.heap.size ≠ w.heap.size + 1 + 1; omega) (.slice A2 z.1.length c2)
  have br2 := br1.far (p := ⟨w.heap.size + 1 + 1, 0, none⟩) (by show w.heap.size + 1 ≠ w.heap.size + 1 + 1; omega) (.slice A2 z.1.length c2)
  have ho2 := ho0.far (p := ⟨w.heap.size + 1 + 1, 0, none⟩) (by show w.heap.size + 1 + 1 < w.heap.size + 3; omega) (.slice A2 z.1.length c2)
  have hw2 : Below w.heap.size w (w1.setCell ⟨w.heap.size + 1 + 1, 0, none⟩ (.slice A2 z.1.length c2)) := below_set (by show w.heap.size ≤ w.heap.size + 1 + 1; omega) hw1
  have p0 := bx1.d0; have p1 := bx1.d1; have p2 := bo1.d0; have p3 := bo1.hot 0
  have hk := hw2.size
  have p4 := bx2.d1
  clear q0 q1
  go_wp2_with fail
  refine (toGrid _ _ _ _ _ _ (Nat.le_refl _) (hrr.keep (keeps_below hw2)) hn1).mono ?_; rintro e w3 ⟨v1, cs, rfl, hrow, hol, hd, hb3⟩
  obtain ⟨A3, c3, e3, _⟩ := row_form hrow
  subst e3
  have bx3 := bx2.below hb3 bx2.lt
  have br3 := br2.below hb3 br2.lt
  have bo3 := bo2.below hb3 bo2.lt
  have ho3 := ho2.below hb3
  have hw3 := below_then hb3 hk hw2
  have hz3 : w1.heap.size ≤ w3.heap.size := by have := hb3.size; simpa [World.setCell] using this
  have r1 : w3.cell? ⟨w.heap.size + 1 + 1, 1, none⟩ = some (.slice none 0 0) := bo3.cell 1
  have r2 := bo3.hot 1
  have bo4 := bo3.set_ 1 (.slice A3 z.2.length c3)
  have r3 : (w3.setCell ⟨w.heap.size + 1 + 1, 1, none⟩ (.slice A3 z.2.length c3)).cell? ⟨w.heap.size + 1 + 1, 0, none⟩ = some (.slice A2 z.1.length c2) := bo4.cell 0
  have r4 : (w3.setCell ⟨w.heap.size + 1 + 1, 1, none⟩ (.slice A3 z.2.length c3)).cell? ⟨w.heap.size + 1 + 1, 1, none⟩ = some (.slice A3 z.2.length c3) := bo4.cell 1
  have br4 := br3.far (p := ⟨w.heap.size + 1 + 1, 1, none⟩) (by show w.heap.size + 1 ≠ w.heap.size + 1 + 1; omega) (.slice A3 z.2.length c3)
  have s0 := br4.d0; have s1 := br4.d1; have s2 := br4.hot 0; have s3 := br4.hot 1
  have hap : ∀ i, i < cs.length → Apart (.slice A2 z.1.length c2) (gv cs i) := fun i hi => apart_lt ho2 (hol i hi) (Nat.le_refl _)
  have hs3 : w.heap.size + 3 ≤ (w1.setCell ⟨w.heap.size + 1 + 1, 0, none⟩ (.slice A2 z.1.length c2)).heap.size := by simp [World.setCell]; omega
  have ch := (Chg.set (w := w3) ⟨w.heap.size + 1 + 1, 1, none⟩ (.slice A3 z.2.length c3)).trans ((Chg.set ⟨w.heap.size + 1, 0, none⟩ (.slice A2 z.1.length c2)).trans (Chg.set ⟨w.heap.size + 1, 1, none⟩ (.slice A3 z.2.length c3)) (U := fun b => b = w.heap.size + 1) (fun b hb => hb) (fun b hb => hb)) (U := fun b => b < w.heap.size + 3 ∧ w.heap.size ≤ b) (fun b hb => by have : b = w.heap.size + 1 + 1 := hb; omega) (fun b hb => by have : b = w.heap.size + 1 := hb; omega)
  have t0 := (br4.set_ 0 (.slice A2 z.1.length c2)).set_ 1 (.slice A3 z.2.length c3)
  have u0 : (((w3.setCell ⟨w.heap.size + 1 + 1, 1, none⟩ (.slice A3 z.2.length c3)).setCell ⟨w.heap.size + 1, 0, none⟩ (.slice A2 z.1.length c2)).setCell ⟨w.heap.size + 1, 1, none⟩ (.slice A3 z.2.length c3)).cell? ⟨w.heap.size + 1, 0, none⟩ = some (.slice A2 z.1.length c2) := t0.cell 0
  have u1 : (((w3.setCell ⟨w.heap.size + 1 + 1, 1, none⟩ (.slice A3 z.2.length c3)).setCell ⟨w.heap.size + 1, 0, none⟩ (.slice A2 z.1.length c2)).setCell ⟨w.heap.size + 1, 1, none⟩ (.slice A3 z.2.length c3)).cell? ⟨w.heap.size + 1, 1, none⟩ = some (.slice A3 z.2.length c3) := t0.cell 1
  go_wp2
  refine bodyPost_ret (v := .agg #[.slice A2 z.1.length c2, .slice A3 z.2.length c3]) (by simp [results, Tryd.results72, go_sem, u0, u1]) rfl ⟨_, _, rfl, ⟨cs, ⟨?_, ?_, fun i hi => ?_⟩, Dis.cons hd hap⟩, ?_⟩
  · exact (ho3.chg ch (fun b hb hS => by have := (ho3.lt b hb).1; omega)).more (by omega)
  · exact row_more (row_chg hrow ch (fun b hb hS => by have := (World.ownsRow.lt hrow b hb).1; omega)) (by omega)
  · exact ((hol i hi).chg ch (fun b hb hS => by have := ((hol i hi).lt b hb).1; omega)).more (by omega)
  · exact (hw3.trans (ch.below (by omega) (fun b hb => hb.2))).mono hB
end Go.Proofs.YtkhkdnmpbfmmeaaDoor
