/- Texts that the proof reaches: ArenaL, Copy, Great, Plan, Stay, Acc, Ranks, Attr, Plan2, Pull, OftP, Beyond, Scc, Que, AftP, Cut, ParL, Game, RestP, Pairs, BrkP, Aft, Prt, Dice, Hand, Arn, Has, Oft. -/
import Derived.Test.YtjjaolndencplaaBn1
import Derived.Deep.OwnRows
import Derived.Deep.RegionHeld3
import Derived.Deep.RegionLaw
import Derived.Deep.LoopGhost
import Derived.Laws.AppendOwnNone
import Derived.Deep.DeepCutAuto
import Derived.IntWalk
import Derived.StillTailTactics
namespace Go.Proofs.Ytjjaolndencplaa
open Go.RowKit

theorem RAv.ri {w : World} {A0 A1 : Option Addr} {n0 c0 n1 c1 : Nat} {o : List Int} {n : List (List Int)} (h : RAv w (.slice A0 n0 c0) (.slice A1 n1 c1) o n) : RI w A0 n0 c0 o := by
  obtain ⟨⟨A, m, c, e, hr⟩, _⟩ := h
  injection e with e1 e2 e3
  subst e1; subst e2; subst e3
  exact hr
theorem RAv.rii {w : World} {A0 A1 : Option Addr} {n0 c0 n1 c1 : Nat} {o : List Int} {n : List (List Int)} (h : RAv w (.slice A0 n0 c0) (.slice A1 n1 c1) o n) : RII w A1 n1 c1 n := by
  obtain ⟨_, A, m, c, e, hr⟩ := h
  injection e with e1 e2 e3
  subst e1; subst e2; subst e3
  exact hr
theorem RAv.form {w : World} {s0 s1 : Value} {o : List Int} {n : List (List Int)} (h : RAv w s0 s1 o n) : ∃ A0 n0 c0 A1 n1 c1, s0 = .slice A0 n0 c0 ∧ s1 = .slice A1 n1 c1 := by
  obtain ⟨⟨A, m, c, e, _⟩, A', m', c', e', _⟩ := h
  exact ⟨A, m, c, A', m', c', e, e'⟩
theorem RAv.of {w : World} {A0 A1 : Option Addr} {n0 c0 n1 c1 : Nat} {o : List Int} {n : List (List Int)} (h : RI w A0 n0 c0 o) (k : RII w A1 n1 c1 n) : RAv w (.slice A0 n0 c0) (.slice A1 n1 c1) o n := ⟨⟨_, _, _, rfl, h⟩, _, _, _, rfl, k⟩
theorem eqAr_self (o : List Int) (n : List (List Int)) : eqAr o o n n = true := by simp [eqAr, eqL, eqLL]

/-- an arena of the call's own -/
def OArn (w : World) (lo : Nat) (s0 s1 : Value) (z : ArD) : Prop := ∃ cs, OAr w lo s0 s1 cs z.1 z.2 ∧ Dis (s0 :: cs)
section
variable {w w' wb : World} {lo lo' : Nat} {s0 s1 : Value} {z : ArD}
theorem OArn.form (h : OArn w lo s0 s1 z) : ∃ A0 c0 A1 c1, s0 = .slice A0 z.1.length c0 ∧ s1 = .slice A1 z.2.length c1 := by
  obtain ⟨cs, ⟨h0, h1, _⟩, _⟩ := h
  obtain ⟨A0, c0, e0⟩ := h0.form
  obtain ⟨A1, c1, e1, _⟩ := row_form h1
  exact ⟨A0, c0, A1, c1, e0, e1⟩
theorem OArn.reads (h : OArn w lo s0 s1 z) : RAv w s0 s1 z.1 z.2 := by
  obtain ⟨cs, h, _⟩ := h
  exact h.reads
theorem OArn.hold (h : OArn wb lo s0 s1 z) (f : Far lo wb w) : OArn w lo s0 s1 z := by
  obtain ⟨cs, h, hd⟩ := h
  exact ⟨cs, h.hold f, hd⟩
theorem OArn.below (h : OArn w lo s0 s1 z) (hb : Below w.heap.size w w') : OArn w' lo s0 s1 z := by
  obtain ⟨cs, h, hd⟩ := h
  exact ⟨cs, h.below hb, hd⟩
theorem OArn.more (h : OArn w lo s0 s1 z) (hl : lo' ≤ lo) : OArn w lo' s0 s1 z := by
  obtain ⟨cs, h, hd⟩ := h
  exact ⟨cs, h.more hl, hd⟩
end

set_option maxRecDepth 100000 in
set_option maxHeartbeats 400000 in
theorem markArenaU (s0 s1 : Value) (z : ArD) (k : Int) (w : World) (lo : Nat) (wb : World) (hlo : lo ≤ wb.heap.size) (ho : OArn wb lo s0 s1 z) (hb : Far lo wb w) (hk0 : 0 ≤ k) (hk1 : k + artot z.1 z.2 ≤ 4611686018427387904) :
    Calls Try.prog 14 #[.agg #[s0, s1], .int .i64 k] w fun e w' => e = .returned (.int .i64 (k + artot z.1 z.2)) ∧ OArn w' lo s0 s1 (upto k z.1.length, mkL (k + z.1.length) z.2) ∧ Chg (fun b => lo ≤ b ∧ b < wb.heap.size) w w' := by
  obtain ⟨cs, h, hd⟩ := ho
  have h2 := h.hold hb
  refine (markArena _ _ cs _ _ _ _ lo (by have := hb.size; omega) h2 hd hk0 hk1).mono fun e w' ⟨e1, h3, h4⟩ => ⟨e1, ⟨cs, h3, hd⟩, h4.mono fun b hbb => ?_⟩
  rcases hbb with hbb | ⟨i, hi, hbb⟩
  · exact h.1.lt b hbb
  · exact h.2.2.lt i hi b hbb

/-! ### sizes -/
theorem tot_all {xs : List (List Int)} {k : Nat} (h : xs.length = k) : tot (xs.take k) = tot xs := by rw [List.take_of_length_le (by omega)]
set_option maxRecDepth 100000 in
set_option maxHeartbeats 400000 in
theorem szGrid (A : Option Addr) (m c : Nat) (xs : List (List Int)) (l : Int) (w : World) (ha : RII w A m c xs) (h0 : 0 ≤ l) (h1 : l ≤ 1048576) :
    Calls Try.prog 21 #[.slice A m c, .int .i64 l] w fun e w' => e = .returned (.int .i64 (szF l (xs.length + tot xs))) ∧ Qt w w' := by
  have b1 := ha.cap; have b2 := ha.top
  have HL := Lib.hid ha.len
  have htl := tot_le xs
  by_cases hm : (m : Int) ≤ l
  · go_enter Try.func21, Try.ntmps21
    go_wp2
    go_loopw [1, 5] (fun s i wr => ∃ (k : Nat) (r : Int), k ≤ m ∧ i = .int .i64 k ∧ s = .int .i64 r ∧ 0 ≤ r ∧ r ≤ l ∧ r = l - m - tot (xs.take k) ∧ ∃ q, wr = w.drewN q) (fun _ i _ => m - (intOf i).toNat)
    case atStart => exact ⟨0, l - m, Nat.zero_le _, rfl, rfl, by omega, by omega, by simp [tot], 0, rfl⟩
    case round =>
      obtain ⟨k, r, hk, rfl, rfl, hr0, hr1, hr, q, rfl⟩ := hrel
      have HR := Lib.hid hr
      clear hr
      by_cases hlt : k < m
      · obtain ⟨b, off, A1, n1, c1, rfl, hc1, r1⟩ := ha.at_ hlt
        have t1 := r1.cap; have t2 := r1.top
        have hs : tot (xs.take (k + 1)) = tot (xs.take k) + n1 := by rw [tot_take (by rw [HL.out]; exact hlt), r1.len]
        have HS := Lib.hid hs
        clear hs
        by_cases h2 : (n1 : Int) ≤ r
        · have E1 := Lib.hid (szF_yes h2)
          go_wp2_with fail
          refine (szInts _ _ _ _ _ hr0 (by omega) (by omega)).mono ?_; rintro e w1 ⟨rfl, q1, rfl⟩
          rw [E1.out]
          go_wp2
          go_roundw
          case rel => exact ⟨k + 1, r - n1, by omega, by go_num, rfl, by omega, by omega, by rw [HS.out, HR.out]; omega, _, rfl⟩
          case measure => simp [intOf]; omega
        · have E1 := Lib.hid (szF_no h2)
          have E2 := Lib.hid (show szF l (xs.length + tot xs) = -1 from szF_no (by
            have h5 := htl (k + 1)
            have h6 := HS.out
            have h7 := HR.out
            have h8 := HL.out
            omega))
          go_wp2_with fail
          refine (szInts _ _ _ _ _ hr0 (by omega) (by omega)).mono ?_; rintro e w1 ⟨rfl, q1, rfl⟩
          rw [E1.out]
          go_wp2
          go_ret
          exact ⟨ret_i E2.out.symm, _, rfl⟩
      · obtain rfl : k = m := by omega
        have E2 := Lib.hid (show szF l (xs.length + tot xs) = r from by
          have h7 := HR.out
          rw [tot_all HL.out] at h7
          rw [szF_yes (by rw [HL.out]; omega), HL.out, h7]; omega)
        go_wp2
        go_ret
        exact ⟨ret_i E2.out.symm, _, rfl⟩
  · have E2 := Lib.hid (show szF l (xs.length + tot xs) = -1 from szF_no (by rw [HL.out]; omega))
    go_enter Try.func21, Try.ntmps21
    go_wp2
    go_ret
    exact ⟨ret_i E2.out.symm, Qt.refl _⟩

def szAr (z : ArD) : Nat := z.1.length + (z.2.length + tot z.2)
theorem artot_sz (z : ArD) : artot z.1 z.2 ≤ szAr z := by unfold artot szAr; omega
theorem szF_three {l : Int} {n m : Nat} (_h : (n : Int) ≤ l) : szF (l - n) m = szF l (n + m : Nat) := by
  by_cases h2 : (m : Int) ≤ l - n
  · rw [szF_yes h2, szF_yes (by omega)]; omega
  · rw [szF_no h2, szF_no (by omega)]
set_option maxRecDepth 100000 in
set_option maxHeartbeats 400000 in
theorem szArena (s0 s1 : Value) (z : ArD) (l : Int) (w : World) (B : Nat) (hB : B ≤ w.heap.size) (ha : RAv w s0 s1 z.1 z.2) (h0 : 0 ≤ l) (h1 : l ≤ 1048576) :
    Calls Try.prog 5 #[.agg #[s0, s1], .int .i64 l] w fun e w' => e = .returned (.int .i64 (szF l (szAr z : Nat))) ∧ Below B w w' := by
  obtain ⟨A0, n0, c0, A1, n1, c1, rfl, rfl⟩ := ha.form
  have hr := ha.ri; have hrr := ha.rii
  have b1 := hr.cap; have b2 := hr.top; have b3 := hrr.cap; have b4 := hrr.top
  have HL := Lib.hid hr.len; have HM := Lib.hid hrr.len
  have hba : Below w.heap.size w (w.alloc (.cells #[.slice A0 n0 c0, .slice A1 n1 c1] 25)) := below_alloc (Nat.le_refl _) (Below.refl _ _)
  have bx := Box.new w 25 #[.slice A0 n0 c0, .slice A1 n1 c1]
  have q0 := bx.d0; have q1 := bx.d1
  by_cases hn : (n0 : Int) ≤ l
  · have E1 := Lib.hid (szF_yes hn)
    have E2 := Lib.hid (show szF (l - n0) (z.2.length + tot z.2) = szF l (szAr z : Nat) by unfold szAr; rw [HL.out]; exact szF_three hn)
    go_enter Try.func5, Try.ntmps5
    go_wp2_with fail
    refine (szInts _ _ _ _ _ h0 h1 (by omega)).mono ?_; rintro e w1 ⟨rfl, hq1⟩
    rw [E1.out]
    have hb1 := below_qt hq1 hba
    have bx1 := bx.below (below_qt hq1 (Below.refl _ _)) bx.lt
    have q10 := bx1.d0; have q11 := bx1.d1
    go_wp2_with fail
    refine (szGrid _ _ _ _ _ _ (hrr.keep (keeps_below hb1)) (by omega) (by omega)).mono ?_; rintro e w2 ⟨rfl, hq2⟩
    rw [E2.out]
    have hb2 := below_qt hq2 hb1
    obtain ⟨G, hG⟩ : ∃ G, szF l (szAr z : Nat) = G := ⟨_, rfl⟩
    rw [hG]
    have HG := Lib.hid hG
    have hG1 : G = -1 ∨ 0 ≤ G := by
      by_cases h3 : ((szAr z : Nat) : Int) ≤ l
      · rw [szF_yes h3] at hG; right; omega
      · rw [szF_no h3] at hG; left; omega
    clear hG E2
    rcases hG1 with rfl | hG1
    · go_wp2
      go_ret
      exact ⟨ret_i HG.out.symm, hb2.mono hB⟩
    · go_wp2
      go_ret
      exact ⟨ret_i HG.out.symm, hb2.mono hB⟩
  · have E1 := Lib.hid (szF_no hn)
    have E2 := Lib.hid (show szF l (szAr z : Nat) = -1 from szF_no (by unfold szAr; rw [HL.out]; omega))
    clear hn
    go_enter Try.func5, Try.ntmps5
    go_wp2_with fail
    refine (szInts _ _ _ _ _ h0 h1 (by omega)).mono ?_; rintro e w1 ⟨rfl, hq1⟩
    rw [E1.out]
    go_wp2
    go_ret
    exact ⟨ret_i E2.out.symm, (below_qt hq1 hba).mono hB⟩

/-! ### copies -/
theorem infoII' : (Try.prog.info? 22).map (fun i => (i.zero, i.size, i.bytes)) = some (some (.slice none 0 0), 1, 24) := by kernel_rfl
theorem made_row (n : Nat) : (madeCells (Value.slice none 0 0).cells (n * 1)).toList = List.replicate n (.slice none 0 0) := by
  rw [show (Value.slice none 0 0).cells = #[Value.slice none 0 0] from rfl, Nat.mul_one, toList_madeCells_one]
set_option maxRecDepth 100000 in
set_option maxHeartbeats 800000 in
theorem toGrid (A : Option Addr) (n c : Nat) (xs : List (List Int)) (w : World) (B : Nat) (hB : B ≤ w.heap.size) (ha : RII w A n c xs) (hn : xs.length + tot xs ≤ 1048576) :
    Calls Try.prog 29 #[.slice A n c] w fun e w' => ∃ v cs, e = .returned v ∧ w'.ownsRow B 22 1 v xs.length cs ∧ OL 2 w' B cs (gl xs) ∧ Dis cs ∧ Below B w w' := by
  have b1 := ha.cap; have b2 := ha.top
  have HL := Lib.hid ha.len
  have hn' : n ≤ 1048576 := by have := HL.out; omega
  have hsz : ∀ k, k < n → (gl xs k).length ≤ 1048576 := by
    intro k hk
    have h5 := tot_le xs (k + 1)
    rw [tot_take (by rw [HL.out]; exact hk)] at h5
    omega
  have HSZ := Lib.hid hsz
  clear hsz
  obtain ⟨ib, hi, hz0, hz1, hz2⟩ := info_parts infoII'
  go_enter Try.func29, Try.ntmps29
  go_wp2_with (refine wpList_make_full _ rfl (.tmp 6) (.tmp 6) 23 rfl w.heap.size 22 ib (.slice none 0 0) 1 Try.underlying23 hi hz0 hz1 .i64 .i64 _ _ n rfl rfl rfl rfl (by rw [hz2]; omega) (by unfold maxLen; omega) (Nat.le_refl _) ?_; intro w1 hown hgrow)
  rw [made_row] at hown
  have hbel : Below w.heap.size w w1 := (Below.refl _ _).grown hgrow (Nat.le_refl _) (by simp)
  have hlt1 : w.heap.size + 1 ≤ w1.heap.size := by
    have := World.ownsRow.lt hown w.heap.size rfl
    omega
  clear hgrow
  go_loopw [4] (fun i wr => ∃ j : Nat, j ≤ n ∧ i = .int .i64 j ∧ Below w.heap.size w wr ∧ w.heap.size + 1 ≤ wr.heap.size ∧
      ∃ cs, wr.ownsRow w.heap.size 22 1 (.slice (some ⟨w.heap.size, 0, none⟩) n n) n cs ∧ OL 2 wr (w.heap.size + 1) cs (fun i => if i < j then gl xs i else []) ∧ Dis cs) (fun i _ => n - (intOf i).toNat)
  case atStart => exact ⟨0, Nat.zero_le _, rfl, hbel, hlt1, _, hown, (OL.nil rfl).congr (fun i _ => by simp), Dis.nil⟩
  case round =>
    obtain ⟨j, hj, rfl, hb, hsz1, cs, hrow, hol, hdis⟩ := hrel
    have HR := Lib.hid hrow
    have HO := Lib.hid hol
    have HD := Lib.hid hdis
    clear hrow hol hdis hown
    by_cases hlt : j < n
    · obtain ⟨b, off, A1, n1, c1, rfl, hc1, r1⟩ := (ha.keep (keeps_below hb)).at_ hlt
      have hsz := HSZ.out j hlt
      rw [r1.len] at hsz
      go_wp2_with fail
      refine (toInts _ _ _ _ _ _ (Nat.le_refl _) r1 hsz).mono ?_; rintro e w2 ⟨v, rfl, hv, hb2⟩
      obtain ⟨A3, c3, rfl⟩ := hv.form
      have hr2 := row_below HR.out hb2
      have ho2 := HO.out.below hb2
      have hl := row_len HR.out
      have HLC := Lib.hid hl
      clear hl
      have k1 := row_cell hr2 (j := j) (by omega)
      have f1 := World.ownsRow.frozenAt hr2 j
      have hs1 := (World.ownsRow.stored hr2 j (.slice A3 (gl xs j).length c3)).1
      have hx := apart_new HO.out hv (Nat.le_refl _)
      have hv' := (hv.more (lo' := w.heap.size + 1) hsz1).far (p := ⟨w.heap.size, j, none⟩) (by show w.heap.size < _; omega) (.slice A3 (gl xs j).length c3)
      have ho' := ho2.far (p := ⟨w.heap.size, j, none⟩) (by show w.heap.size < _; omega) (.slice A3 (gl xs j).length c3)
      have HO3 := Lib.hid (ho'.set_ (k := j) (by rw [HLC.out]; omega) hv')
      have HR3 := Lib.hid hs1
      have HD3 := Lib.hid (HD.out.set_ (k := j) (by rw [HLC.out]; omega) (fun i hi _ => hx i hi))
      clear ho' hv' hs1 hx
      go_wp2
      go_roundw
      case rel =>
        refine ⟨j + 1, by omega, by go_num, below_set (Nat.le_refl _) (below_then hb2 hb.size hb), by have := hb2.size; simp; omega, _, HR3.out, HO3.out.congr (fun i hi => ?_), HD3.out⟩
        by_cases e1 : j = i
        · subst e1
          rw [if_pos rfl, if_pos (by omega)]
        · rw [if_neg e1]
          by_cases e3 : i < j
          · rw [if_pos e3, if_pos (by omega)]
          · rw [if_neg e3, if_neg (by omega)]
      case measure => simp [intOf]; omega
    · obtain rfl : j = n := by omega
      go_wp2
      go_ret
      refine ⟨_, cs, rfl, ?_, (HO.out.congr (fun i hi => ?_)).more (by omega), HD.out, hb.mono hB⟩
      · rw [HL.out]; exact row_more HR.out hB
      · rw [row_len HR.out] at hi; rw [if_pos (by omega)]

set_option maxRecDepth 100000 in
set_option maxHeartbeats 800000 in
theorem toArena (s0 s1 : Value) (z : ArD) (w : World) (B : Nat) (hB : B ≤ w.heap.size) (ha : RAv w s0 s1 z.1 z.2) (hn : szAr z ≤ 1048576) :
    Calls Try.prog 8 #[.agg #[s0, s1]] w fun e w' => ∃ t0 t1, e = .returned (.agg #[t0, t1]) ∧ OArn w' B t0 t1 z ∧ Below B w w' := by
  obtain ⟨A0, n0, c0, A1, n1, c1, rfl, rfl⟩ := ha.form
  have hr := ha.ri; have hrr := ha.rii
  have HL := Lib.hid hr.len; have HM := Lib.hid hrr.len
  have hn0 : n0 ≤ 1048576 := by have := HL.out; unfold szAr at hn; omega
  have hn1 : z.2.length + tot z.2 ≤ 1048576 := by unfold szAr at hn; omega
  have hba : Below w.heap.size w (((w.alloc (.cells #[.slice A0 n0 c0, .slice A1 n1 c1] 25)).alloc (.cells #[.slice none 0 0, .slice none 0 0] 30)).alloc (.cells #[.slice none 0 0, .slice none 0 0] 30)) := below_alloc (Nat.le_refl _) (below_alloc (Nat.le_refl _) (below_alloc (Nat.le_refl _) (Below.refl _ _)))
  have bx := ((Box.new w 25 #[.slice A0 n0 c0, .slice A1 n1 c1]).alloc (.cells #[.slice none 0 0, .slice none 0 0] 30)).alloc (.cells #[.slice none 0 0, .slice none 0 0] 30)
  have br : Box (((w.alloc (.cells #[.slice A0 n0 c0, .slice A1 n1 c1] 25)).alloc (.cells #[.slice none 0 0, .slice none 0 0] 30)).alloc (.cells #[.slice none 0 0, .slice none 0 0] 30)) (w.heap.size + 1) 30 #[.slice none 0 0, .slice none 0 0] := (Box.new' (by simp)).alloc _
  have bo : Box (((w.alloc (.cells #[.slice A0 n0 c0, .slice A1 n1 c1] 25)).alloc (.cells #[.slice none 0 0, .slice none 0 0] 30)).alloc (.cells #[.slice none 0 0, .slice none 0 0] 30)) (w.heap.size + 1 + 1) 30 #[.slice none 0 0, .slice none 0 0] := Box.new' (by simp)
  have hsz : w.heap.size + 3 ≤ (((w.alloc (.cells #[.slice A0 n0 c0, .slice A1 n1 c1] 25)).alloc (.cells #[.slice none 0 0, .slice none 0 0] 30)).alloc (.cells #[.slice none 0 0, .slice none 0 0] 30)).heap.size := by simp
  have q0 := bx.d0; have q1 := bx.d1
  go_enter Try.func8, Try.ntmps8
  go_wp2_with fail
  refine (toInts _ _ _ _ _ _ (Nat.le_refl _) (hr.keep (keeps_below hba)) hn0).mono ?_; rintro e w1 ⟨v0, rfl, ho0, hb1⟩
  obtain ⟨A2, c2, rfl⟩ := ho0.form
  have hw1 := below_then hb1 hba.size hba
  have bx1 := bx.below hb1 bx.lt
  have br1 := br.below hb1 br.lt
  have bo1 := bo.below hb1 bo.lt
  have hz1 := hb1.size
  have hs1 : w.heap.size + 3 ≤ w1.heap.size := by omega
  replace ho0 := ho0.more (lo' := w.heap.size + 3) hsz
  have bo2 := bo1.set_ 0 (.slice A2 z.1.length c2)
  have bx2 := bx1.far (p := ⟨w.heap.size + 1 + 1, 0, none⟩) (by show w.heap.size ≠ w.heap.size + 1 + 1; omega) (.slice A2 z.1.length c2)
  have br2 := br1.far (p := ⟨w.heap.size + 1 + 1, 0, none⟩) (by show w.heap.size + 1 ≠ w.heap.size + 1 + 1; omega) (.slice A2 z.1.length c2)
  have ho2 := ho0.far (p := ⟨w.heap.size + 1 + 1, 0, none⟩) (by show w.heap.size + 1 + 1 < w.heap.size + 3; omega) (.slice A2 z.1.length c2)
  have hw2 : Below w.heap.size w (w1.setCell ⟨w.heap.size + 1 + 1, 0, none⟩ (.slice A2 z.1.length c2)) := below_set (by show w.heap.size ≤ w.heap.size + 1 + 1; omega) hw1
  have p0 := bx1.d0; have p1 := bx1.d1; have p2 := bo1.d0; have p3 := bo1.hot 0
  have hk := hw2.size
  have p4 := bx2.d1
  clear q0 q1
  go_wp2_with fail
  refine (toGrid _ _ _ _ _ _ (Nat.le_refl _) (hrr.keep (keeps_below hw2)) hn1).mono ?_; rintro e w3 ⟨v1, cs, rfl, hrow, hol, hd, hb3⟩
  obtain ⟨A3, c3, e3, _⟩ := row_form hrow
  subst e3
  have bx3 := bx2.below hb3 bx2.lt
  have br3 := br2.below hb3 br2.lt
  have bo3 := bo2.below hb3 bo2.lt
  have ho3 := ho2.below hb3
  have hw3 := below_then hb3 hk hw2
  have hz3 : w1.heap.size ≤ w3.heap.size := by have := hb3.size; simpa [World.setCell] using this
  have r1 : w3.cell? ⟨w.heap.size + 1 + 1, 1, none⟩ = some (.slice none 0 0) := bo3.cell 1
  have r2 := bo3.hot 1
  have bo4 := bo3.set_ 1 (.slice A3 z.2.length c3)
  have r3 : (w3.setCell ⟨w.heap.size + 1 + 1, 1, none⟩ (.slice A3 z.2.length c3)).cell? ⟨w.heap.size + 1 + 1, 0, none⟩ = some (.slice A2 z.1.length c2) := bo4.cell 0
  have r4 : (w3.setCell ⟨w.heap.size + 1 + 1, 1, none⟩ (.slice A3 z.2.length c3)).cell? ⟨w.heap.size + 1 + 1, 1, none⟩ = some (.slice A3 z.2.length c3) := bo4.cell 1
  have br4 := br3.far (p := ⟨w.heap.size + 1 + 1, 1, none⟩) (by show w.heap.size + 1 ≠ w.heap.size + 1 + 1; omega) (.slice A3 z.2.length c3)
  have s0 := br4.d0; have s1 := br4.d1; have s2 := br4.hot 0; have s3 := br4.hot 1
  have hap : ∀ i, i < cs.length → Apart (.slice A2 z.1.length c2) (gv cs i) := fun i hi => apart_lt ho2 (hol i hi) (Nat.le_refl _)
  have hs3 : w.heap.size + 3 ≤ (w1.setCell ⟨w.heap.size + 1 + 1, 0, none⟩ (.slice A2 z.1.length c2)).heap.size := by simp [World.setCell]; omega
  have ch := (Chg.set (w := w3) ⟨w.heap.size + 1 + 1, 1, none⟩ (.slice A3 z.2.length c3)).trans ((Chg.set ⟨w.heap.size + 1, 0, none⟩ (.slice A2 z.1.length c2)).trans (Chg.set ⟨w.heap.size + 1, 1, none⟩ (.slice A3 z.2.length c3)) (U := fun b => b = w.heap.size + 1) (fun b hb => hb) (fun b hb => hb)) (U := fun b => b < w.heap.size + 3 ∧ w.heap.size ≤ b) (fun b hb => by have : b = w.heap.size + 1 + 1 := hb; omega) (fun b hb => by have : b = w.heap.size + 1 := hb; omega)
  have t0 := (br4.set_ 0 (.slice A2 z.1.length c2)).set_ 1 (.slice A3 z.2.length c3)
  have u0 : (((w3.setCell ⟨w.heap.size + 1 + 1, 1, none⟩ (.slice A3 z.2.length c3)).setCell ⟨w.heap.size + 1, 0, none⟩ (.slice A2 z.1.length c2)).setCell ⟨w.heap.size + 1, 1, none⟩ (.slice A3 z.2.length c3)).cell? ⟨w.heap.size + 1, 0, none⟩ = some (.slice A2 z.1.length c2) := t0.cell 0
  have u1 : (((w3.setCell ⟨w.heap.size + 1 + 1, 1, none⟩ (.slice A3 z.2.length c3)).setCell ⟨w.heap.size + 1, 0, none⟩ (.slice A2 z.1.length c2)).setCell ⟨w.heap.size + 1, 1, none⟩ (.slice A3 z.2.length c3)).cell? ⟨w.heap.size + 1, 1, none⟩ = some (.slice A3 z.2.length c3) := t0.cell 1
  go_wp2
  refine bodyPost_ret (v := .agg #[.slice A2 z.1.length c2, .slice A3 z.2.length c3]) (by simp [results, Try.results8, go_sem, u0, u1]) rfl ⟨_, _, rfl, ⟨cs, ⟨?_, ?_, fun i hi => ?_⟩, Dis.cons hd hap⟩, ?_⟩
  · exact (ho3.chg ch (fun b hb hS => by have := (ho3.lt b hb).1; omega)).more (by omega)
  · exact row_more (row_chg hrow ch (fun b hb hS => by have := (World.ownsRow.lt hrow b hb).1; omega)) (by omega)
  · exact ((hol i hi).chg ch (fun b hb hS => by have := ((hol i hi).lt b hb).1; omega)).more (by omega)
  · exact (hw3.trans (ch.below (by omega) (fun b hb => hb.2))).mono hB
end Go.Proofs.Ytjjaolndencplaa
namespace Go.Proofs.Ytjjaolndencplaa
open Go.RowKit

theorem OArn.nil (w : World) (lo : Nat) : OArn w lo (.slice none 0 0) (.slice none 0 0) ([], []) :=
  ⟨[], ⟨OI.nil _ _ _, World.ownsRow_nil w lo 22 1, fun i hi => absurd hi (by simp)⟩, fun i j hi hj hne => by simp at hi hj; omega⟩
end Go.Proofs.Ytjjaolndencplaa
namespace Go.Proofs.Ytjjaolndencplaa
open Go.RowKit

theorem OArn.chg {S : Nat → Prop} {w w' : World} {lo : Nat} {s0 s1 : Value} {z : ArD} (h : OArn w lo s0 s1 z) (hc : Chg S w w') (hS : ∀ b, S b → b < lo) : OArn w' lo s0 s1 z := by
  obtain ⟨cs, h1, h2⟩ := h
  exact ⟨cs, h1.chg hc hS, h2⟩
end Go.Proofs.Ytjjaolndencplaa
namespace Go.Proofs.Ytjjaolndencplaa
open Go.RowKit

/-- one sweep over the first k: what is marked and not kept is unmarked at once -/
def sweep (kf : List Bool → Nat → Bool) (ms : List Bool) : Nat → List Bool
  | 0 => ms
  | k + 1 => if gb (sweep kf ms k) k && !kf (sweep kf ms k) k then (sweep kf ms k).set k false else sweep kf ms k
def sweeps (kf : List Bool → Nat → Bool) (m : Nat) (ms : List Bool) : Nat → List Bool
  | 0 => ms
  | t + 1 => sweep kf (sweeps kf m ms t) m
theorem sweep_len (kf : List Bool → Nat → Bool) (ms : List Bool) (k : Nat) : (sweep kf ms k).length = ms.length := by
  induction k with
  | zero => rfl
  | succ k ih => unfold sweep; split <;> simp [ih]
theorem sweeps_len (kf : List Bool → Nat → Bool) (m : Nat) (ms : List Bool) (t : Nat) : (sweeps kf m ms t).length = ms.length := by
  induction t with
  | zero => rfl
  | succ t ih => rw [sweeps, sweep_len, ih]
/-- the sweeps' end -/
def isGfp (kf : List Bool → Nat → Bool) (m : Nat) (ms r : List Bool) : Prop := ∃ t, r = sweeps kf m ms t ∧ sweep kf r m = r
theorem sweeps_fix {kf : List Bool → Nat → Bool} {m : Nat} {ms : List Bool} {t : Nat} (h : sweep kf (sweeps kf m ms t) m = sweeps kf m ms t) : ∀ d, sweeps kf m ms (t + d) = sweeps kf m ms t
  | 0 => rfl
  | d + 1 => by rw [← Nat.add_assoc, sweeps, sweeps_fix h d, h]
theorem isGfp.eq {kf : List Bool → Nat → Bool} {m : Nat} {ms r r' : List Bool} (h : isGfp kf m ms r) (h' : isGfp kf m ms r') : r = r' := by
  obtain ⟨t, rfl, hf⟩ := h
  obtain ⟨t', rfl, hf'⟩ := h'
  rcases Nat.le_total t t' with hl | hl
  · have := sweeps_fix hf (t' - t)
    rw [show t + (t' - t) = t' from by omega] at this
    exact this.symm
  · have := sweeps_fix hf' (t - t')
    rw [show t' + (t - t') = t from by omega] at this
    exact this
/-- the greatest set, by whatever it is that the sweeps end in -/
noncomputable def gfp (kf : List Bool → Nat → Bool) (m : Nat) (ms : List Bool) : List Bool := @Classical.epsilon _ ⟨ms⟩ (isGfp kf m ms)
theorem isGfp.is {kf : List Bool → Nat → Bool} {m : Nat} {ms r : List Bool} (h : isGfp kf m ms r) : r = gfp kf m ms := h.eq (@Classical.epsilon_spec _ (isGfp kf m ms) ⟨r, h⟩)
theorem isGfp.len {kf : List Bool → Nat → Bool} {m : Nat} {ms r : List Bool} (h : isGfp kf m ms r) : r.length = ms.length := by
  obtain ⟨t, rfl, _⟩ := h
  exact sweeps_len _ _ _ _
/-- how many are marked -/
def cnt (ms : List Bool) : Nat := ms.count true
theorem OB.form2 {E : TypeId} {w : World} {lo : Nat} {v : Value} {xs : List Bool} (h : OB E w lo v xs) (h0 : 0 < xs.length) : ∃ g c, v = .slice (some ⟨g, 0, none⟩) xs.length c := by
  rcases h.2 with ⟨_, hn⟩ | ⟨g, cap, cur, rfl, _⟩
  · omega
  · exact ⟨_, _, rfl⟩
set_option maxRecDepth 100000 in
theorem wpList_appB {ops : Array Oper} {rest : List Oper} {o : Oper} {a : Act} {Q : Exit → Act → World → Prop} (hgd : o.guard = none) (s x : Operand)
    (ho : o.op = .call { callee := .builtin .append, args := #[s, x], argTypes := #[48, 48] })
    (w : World) (lo : Nat) (v : Value) (xs : List Bool) (hs : a.eval s = v) (hown : OB 4 w lo v xs) (X : Option Addr) (m c : Nat) (ys : List Bool) (hx : a.eval x = .slice X m c) (h0 : 0 < m) (hr : RB w X m c ys)
    (hn : xs.length ≤ 4194304) (hm : m ≤ 4194304) (hlo : lo ≤ w.heap.size)
    (h : ∀ v' w', OB 4 w' lo v' (xs ++ ys) → Below lo w w' → wpList Try.prog ops Q rest (a.put o.dst v') w') : wpList Try.prog ops Q (o :: rest) a w := by
  obtain ⟨i0, hi0, hz0, hz1, hz2⟩ := info_parts infoB
  obtain ⟨b0, off0, hX, _⟩ := hr.at_ h0
  subst hX
  have hnews : ∀ j u, (ys.map Value.bool)[j]? = some u → w.cell? ((⟨b0, off0, none⟩ : Addr).add j) = some u := by
    intro j u hj
    rw [List.getElem?_map] at hj
    have hjl : j < ys.length := by
      rcases Nat.lt_or_ge j ys.length with h1 | h1
      · exact h1
      · rw [List.getElem?_eq_none h1] at hj; cases hj
    obtain ⟨b, off, e, hc⟩ := hr.at_ (i := j) (by rw [← hr.len]; exact hjl)
    injection e with e
    injection e with e1 e2
    subst e1; subst e2
    rw [add_at, hc]
    rw [List.getElem?_eq_getElem hjl] at hj
    rw [gb_get hjl]
    simpa using hj
  refine wpList_append_lies w hgd s x 48 ho lo 4 i0 (.bool false) 1 1 Try.underlying48 hi0 hz0 hz1 hz2 rfl (by decide) v xs.length (xs.map Value.bool) hs hown ⟨b0, off0, none⟩ m c (ys.map Value.bool) hx (by rw [List.length_map, hr.len]; omega) hnews (fun u hu => by
    obtain ⟨y, _, rfl⟩ := List.mem_map.1 hu
    rfl) h0 (by unfold maxLen; omega) (by omega) hlo w.heap.size rfl ?_
  intro g cap w' h2 h3 h4 h5
  refine h _ w' ?_ ((Chg.of_grown h3).below hlo (fun z hz => (hown.lt z hz).1))
  unfold OB
  rw [List.length_append, List.map_append, hr.len]
  exact h2

end Go.Proofs.Ytjjaolndencplaa
namespace Go.Proofs.Ytjjaolndencplaa
open Go.RowKit

def fill (f : Nat → Int) (n : Nat) : List Int := (List.range n).map f
theorem fill_len (f : Nat → Int) (n : Nat) : (fill f n).length = n := by simp [fill]
theorem fill_at {f : Nat → Int} {n i : Nat} (h : i < n) : gi (fill f n) i = f i := by
  rw [gi_get (by rw [fill_len]; exact h)]; simp [fill]
/-! ### the first successor that is allowed -/
end Go.Proofs.Ytjjaolndencplaa
namespace Go.Proofs.Ytjjaolndencplaa
open Go.RowKit

/-- the marks of the greatest set that who need not leave -/
noncomputable def stayM (o : List Int) (n : List (List Int)) (who : Int) (s : List Int) : List Bool := gfp (intoB o n who) o.length (mkM o.length s)
end Go.Proofs.Ytjjaolndencplaa
namespace Go.Proofs.Ytjjaolndencplaa
open Go.RowKit

theorem Chg.push {S T : Nat → Prop} {a b c : World} (h : Chg S a b) (k : Chg T b c) (hT : ∀ x, T x → S x ∨ a.heap.size ≤ x) : Chg S a c :=
  ⟨k.os.trans h.os, k.tape.trans h.tape, k.output.trans h.output, Nat.le_trans h.size k.size, fun x hx hu =>
    (k.block x (Nat.lt_of_lt_of_le hx h.size) (fun ht => (hT x ht).elim hu (by omega))).trans (h.block x hx hu)⟩
theorem Chg.drewN {S : Nat → Prop} {a b : World} (h : Chg S a b) (q : Nat) : Chg S a (b.drewN q) := ⟨h.os, h.tape, h.output, h.size, h.block⟩
theorem Chg.then_below {S : Nat → Prop} {a b c : World} {B : Nat} (h : Chg S a b) (k : Below B b c) (hB : a.heap.size ≤ B) : Chg S a c :=
  ⟨k.os.trans h.os, k.tape.trans h.tape, k.output.trans h.output, Nat.le_trans h.size k.size, fun x hx hu => (k.block x (by omega)).trans (h.block x hx hu)⟩
/-- the places whose number is not negative -/
def wonUp (L : List Int) (k : Nat) : List Int := pick (fun i => decide (0 ≤ gi L i)) (fun i => (i : Int)) k
theorem OI.off {E : TypeId} {w : World} {lo g n c : Nat} {xs : List Int} (h : OI E w lo (.slice (some ⟨g, 0, none⟩) n c) xs) {p : Addr} (hp : g ≠ p.block) (u : Value) : OI E (w.setCell p u) lo (.slice (some ⟨g, 0, none⟩) n c) xs :=
  h.chg (Chg.set p u) fun b hb hs => hp (by have hb' : some g = some b := hb; injection hb' with e; exact e.trans hs)
theorem OB.off {E : TypeId} {w : World} {lo g n c : Nat} {xs : List Bool} (h : OB E w lo (.slice (some ⟨g, 0, none⟩) n c) xs) {p : Addr} (hp : g ≠ p.block) (u : Value) : OB E (w.setCell p u) lo (.slice (some ⟨g, 0, none⟩) n c) xs :=
  row_chg h (Chg.set p u) fun b hb hs => hp (by have hb' : some g = some b := hb; injection hb' with e; exact e.trans hs)
theorem OI.form2 {E : TypeId} {w : World} {lo : Nat} {v : Value} {xs : List Int} (h : OI E w lo v xs) (h0 : 0 < xs.length) : ∃ g c, v = .slice (some ⟨g, 0, none⟩) xs.length c := by
  rcases h.2 with ⟨_, hn⟩ | ⟨g, cap, cur, rfl, _⟩
  · omega
  · exact ⟨_, _, rfl⟩
end Go.Proofs.Ytjjaolndencplaa
namespace Go.Proofs.Ytjjaolndencplaa
open Go.RowKit

/-! ### is a vertex pulled to ranked ones -/
def pSome (ns : List Int) (ins : List Bool) (rk : List Int) : Nat → Bool
  | 0 => false
  | k + 1 => pSome ns ins rk k || (gb ins (gi ns k).toNat && decide (0 ≤ gi rk (gi ns k).toNat))
def pAll (ns : List Int) (ins : List Bool) (rk : List Int) : Nat → Bool
  | 0 => true
  | k + 1 => pAll ns ins rk k && (!gb ins (gi ns k).toNat || decide (0 ≤ gi rk (gi ns k).toNat))
def pIn (ns : List Int) (ins : List Bool) : Nat → Bool
  | 0 => false
  | k + 1 => pIn ns ins k || gb ins (gi ns k).toNat
def pulledB (o : List Int) (n : List (List Int)) (who : Int) (ins : List Bool) (rk : List Int) (v : Nat) : Bool :=
  if gi o v = who then pSome (gl n v) ins rk (gl n v).length else pIn (gl n v) ins (gl n v).length && pAll (gl n v) ins rk (gl n v).length
/-! ### a list into which the elements of a set are written -/
/-! ### the rounds -/
def rnk0 (ins : List Bool) (goal : List Int) (m : Nat) : List Int := fill (fun v => if hasL goal (v : Int) = true then (if gb ins v = true then 0 else -1) else -1) m
def rnkC (o : List Int) (n : List (List Int)) (who : Int) (ins : List Bool) (R : List Int) (v : Nat) : Bool := decide (gi R v < 0) && pulledB o n who ins R v
def rnkS (o : List Int) (n : List (List Int)) (who : Int) (inn : List Int) (ins : List Bool) (R : List Int) (k : Nat) (m : Nat) : List Int := fill (fun v => if hasL inn (v : Int) = true then (if rnkC o n who ins R v = true then (k : Int) else gi R v) else gi R v) m
def rnks (o : List Int) (n : List (List Int)) (who : Int) (inn goal : List Int) (m : Nat) : Nat → List Int
  | 0 => rnk0 (mkM m inn) goal m
  | k + 1 => rnkS o n who inn (mkM m inn) (rnks o n who inn goal m k) (k + 1) m
theorem rnks_len (o : List Int) (n : List (List Int)) (who : Int) (inn goal : List Int) (m k : Nat) : (rnks o n who inn goal m k).length = m := by
  cases k <;> exact fill_len _ _
/-- no vertex comes in with the next round -/
def rnkEnd (o : List Int) (n : List (List Int)) (who : Int) (inn : List Int) (R : List Int) (m : Nat) : Prop := ∀ v, v < m → hasL inn (v : Int) = true → rnkC o n who (mkM m inn) R v = false
theorem rnkS_end {o : List Int} {n : List (List Int)} {who : Int} {inn : List Int} {R : List Int} {m : Nat} (hl : R.length = m) (h : rnkEnd o n who inn R m) (k : Nat) : rnkS o n who inn (mkM m inn) R k m = R := by
  refine gi_ext (by unfold rnkS; rw [fill_len, hl]) fun v hv => ?_
  unfold rnkS at hv ⊢
  rw [fill_len] at hv
  rw [fill_at hv]
  split
  · rename_i hi
    rw [h v hv hi]; rfl
  · rfl
def isRnk (o : List Int) (n : List (List Int)) (who : Int) (inn goal : List Int) (m : Nat) (R : List Int) : Prop := ∃ k, R = rnks o n who inn goal m k ∧ rnkEnd o n who inn R m
theorem rnks_fix {o : List Int} {n : List (List Int)} {who : Int} {inn goal : List Int} {m k : Nat} (h : rnkEnd o n who inn (rnks o n who inn goal m k) m) : ∀ d, rnks o n who inn goal m (k + d) = rnks o n who inn goal m k
  | 0 => rfl
  | d + 1 => by rw [← Nat.add_assoc, rnks, rnks_fix h d, rnkS_end (rnks_len _ _ _ _ _ _ _) h]
theorem isRnk.eq {o : List Int} {n : List (List Int)} {who : Int} {inn goal : List Int} {m : Nat} {r r' : List Int} (h : isRnk o n who inn goal m r) (h' : isRnk o n who inn goal m r') : r = r' := by
  obtain ⟨t, rfl, hf⟩ := h
  obtain ⟨t', rfl, hf'⟩ := h'
  rcases Nat.le_total t t' with hl | hl
  · have := rnks_fix hf (t' - t)
    rw [show t + (t' - t) = t' from by omega] at this
    exact this.symm
  · have := rnks_fix hf' (t - t')
    rw [show t' + (t - t') = t from by omega] at this
    exact this
noncomputable def rankE (o : List Int) (n : List (List Int)) (who : Int) (inn goal : List Int) (m : Nat) : List Int := @Classical.epsilon _ ⟨[]⟩ (isRnk o n who inn goal m)
theorem isRnk.is {o : List Int} {n : List (List Int)} {who : Int} {inn goal : List Int} {m : Nat} {r : List Int} (h : isRnk o n who inn goal m r) : r = rankE o n who inn goal m := h.eq (@Classical.epsilon_spec _ (isRnk o n who inn goal m) ⟨r, h⟩)
theorem isRnk.len {o : List Int} {n : List (List Int)} {who : Int} {inn goal : List Int} {m : Nat} {r : List Int} (h : isRnk o n who inn goal m r) : r.length = m := by
  obtain ⟨t, rfl, _⟩ := h
  exact rnks_len _ _ _ _ _ _ _

/-! ### how many have no rank -/
noncomputable def ranksL (o : List Int) (n : List (List Int)) (who : Int) (inn goal : List Int) : List Int := rankE o n who inn goal o.length
/-! ### ranks and rounds -/
end Go.Proofs.Ytjjaolndencplaa
namespace Go.Proofs.Ytjjaolndencplaa
open Go.RowKit

/-! ### the rank that those there are give -/
end Go.Proofs.Ytjjaolndencplaa
namespace Go.Proofs.Ytjjaolndencplaa
open Go.RowKit

end Go.Proofs.Ytjjaolndencplaa
namespace Go.Proofs.Ytjjaolndencplaa
open Go.RowKit


end Go.Proofs.Ytjjaolndencplaa
namespace Go.Proofs.Ytjjaolndencplaa
open Go.RowKit

theorem allL_mem {n : Nat} {i : Nat} (h : i < (allL n).length) : gi (allL n) i = (i : Int) := gi_all (by rwa [allL_len] at h)
theorem allL_set (n : Nat) : setB (allL n) (n : Int) = true := setB_true.2 fun i hi => by
  have h : i < n := by rwa [allL_len] at hi
  refine ⟨by rw [gi_all h]; omega, by rw [gi_all h]; omega, fun h0 => ?_⟩
  rw [gi_all h, gi_all (by omega)]
  omega
noncomputable def attrL (o : List Int) (n : List (List Int)) (who : Int) (inn goal : List Int) : List Int := wonUp (ranksL o n who inn goal) o.length
theorem allOf (A0 A1 : Option Addr) (n0 c0 n1 c1 : Nat) (w : World) (B : Nat) (hB : B ≤ w.heap.size) (hn : n0 ≤ 256) :
    Calls Try.prog 36 #[.agg #[.slice A0 n0 c0, .slice A1 n1 c1]] w fun e w' => ∃ v, e = .returned v ∧ OI 2 w' B v (allL n0) ∧ Below B w w' := by
  have hba : Below w.heap.size w (w.alloc (.cells #[.slice A0 n0 c0, .slice A1 n1 c1] 30)) := below_alloc (Nat.le_refl _) (Below.refl _ _)
  have bx := Box.new w 30 #[.slice A0 n0 c0, .slice A1 n1 c1]
  have q0 := bx.d0; have q1 := bx.d1
  go_enter Try.func36, Try.ntmps36
  go_wp2_with fail
  refine (implSize _ _ _ _ _ _ _ _ (Nat.le_refl _) (by omega)).mono ?_; rintro e w0 ⟨rfl, hb0⟩
  have hw0 := below_then hb0 hba.size hba
  go_wp2_with fail
  refine (AllOf _ _ _ (Nat.le_refl _) (by omega) (by omega)).mono ?_; rintro e w1 ⟨v, rfl, ho, hb1⟩
  go_wp2
  go_ret
  exact ⟨_, rfl, ho.more (by have := hw0.size; omega), (below_then hb1 hw0.size hw0).mono hB⟩

end Go.Proofs.Ytjjaolndencplaa
namespace Go.Proofs.Ytjjaolndencplaa
open Go.RowKit

end Go.Proofs.Ytjjaolndencplaa
namespace Go.Proofs.Ytjjaolndencplaa
open Go.RowKit

end Go.Proofs.Ytjjaolndencplaa
namespace Go.Proofs.Ytjjaolndencplaa
open Go.RowKit

end Go.Proofs.Ytjjaolndencplaa
namespace Go.Proofs.Ytjjaolndencplaa
open Go.RowKit

/-! ### rising lists -/
theorem rises_pair {xs : List Int} : rises xs ↔ xs.Pairwise (· < ·) := by
  rw [List.pairwise_iff_getElem]
  unfold rises
  constructor
  · intro h i j hi hj hij
    have := h i j hij hj
    rwa [gi_get hi, gi_get hj] at this
  · intro h i j hij hj
    rw [gi_get (by omega), gi_get hj]
    exact h i j (by omega) hj hij
theorem pair_ext : ∀ {a b : List Int}, a.Pairwise (· < ·) → b.Pairwise (· < ·) → (∀ x, x ∈ a ↔ x ∈ b) → a = b
  | [], [], _, _, _ => rfl
  | [], y :: ys, _, _, h => absurd ((h y).2 (List.mem_cons_self ..)) (by simp)
  | x :: xs, [], _, _, h => absurd ((h x).1 (List.mem_cons_self ..)) (by simp)
  | x :: xs, y :: ys, ha, hb, h => by
    rw [List.pairwise_cons] at ha hb
    have e : x = y := by
      rcases List.mem_cons.1 ((h x).1 (List.mem_cons_self ..)) with e | e
      · exact e
      · rcases List.mem_cons.1 ((h y).2 (List.mem_cons_self ..)) with e' | e'
        · exact e'.symm
        · have := hb.1 x e; have := ha.1 y e'; omega
    subst e
    rw [pair_ext ha.2 hb.2 fun z => ?_]
    have hz := h z
    rw [List.mem_cons, List.mem_cons] at hz
    constructor
    · intro m
      rcases hz.1 (.inr m) with e | e
      · have := ha.1 z m; omega
      · exact e
    · intro m
      rcases hz.2 (.inr m) with e | e
      · have := hb.1 z m; omega
      · exact e
theorem rises_ext {a b : List Int} (ha : rises a) (hb : rises b) (h : ∀ x, x ∈ a ↔ x ∈ b) : a = b := pair_ext (rises_pair.1 ha) (rises_pair.1 hb) h
theorem setB_of_rises {xs : List Int} {n : Int} (h : rises xs) (hb : ∀ x, x ∈ xs → 0 ≤ x ∧ x < n) : setB xs n = true := setB_true.2 fun i hi => by
  refine ⟨(hb _ (gi_mem hi)).1, (hb _ (gi_mem hi)).2, fun h0 => h _ _ (by omega) hi⟩
theorem set_mem {xs : List Int} {n : Int} (h : setB xs n = true) {x : Int} (hx : x ∈ xs) : 0 ≤ x ∧ x < n := by
  obtain ⟨i, hi, rfl⟩ := mem_gi hx
  have := setB_true.1 h i hi
  exact ⟨this.1, this.2.1⟩
theorem pick_rises {p : Nat → Bool} {f : Nat → Int} {k : Nat} (h : ∀ i j, i < j → j < k → f i < f j) : rises (pick p f k) := by
  rw [rises_pair]
  induction k with
  | zero => exact List.Pairwise.nil
  | succ k ih =>
    have ih' := ih fun i j h1 h2 => h i j h1 (by omega)
    cases hp : p k with
    | false => rw [pick_no hp]; exact ih'
    | true =>
      rw [pick_yes hp, List.pairwise_append]
      refine ⟨ih', List.pairwise_singleton _ _, fun x hx y hy => ?_⟩
      rw [List.mem_singleton] at hy
      obtain ⟨i, hi, _, rfl⟩ := mem_pick.1 hx
      rw [hy]
      exact h i k hi (by omega)
theorem mem_listM {ms : List Bool} {x : Int} : x ∈ listM ms ↔ ∃ v : Nat, v < ms.length ∧ gb ms v = true ∧ (v : Int) = x := mem_pick
theorem listM_rises (ms : List Bool) : rises (listM ms) := pick_rises fun i j h _ => by omega
theorem hasL_iff {xs : List Int} {x : Int} : hasL xs x = true ↔ x ∈ xs := decide_eq_true_iff
theorem mkM_iff {m : Nat} {xs : List Int} {v : Nat} (hv : v < m) : gb (mkM m xs) v = true ↔ (v : Int) ∈ xs := by rw [mkM_at hv, hasL_iff]

/-! ### the greatest set -/
/-! ### a step into a set -/
/-! ### the attractor -/
/-! ### the rounds -/
/-- who need not leave the set -/
def shut (o : List Int) (n : List (List Int)) (who : Int) (s : List Int) : Prop := ∀ v : Nat, v < o.length → (v : Int) ∈ s → intoB o n who (mkM o.length s) v = true
/-- one round -/
noncomputable def oftStep (o : List Int) (n : List (List Int)) (who : Int) (goal s : List Int) : List Int := listM (stayM o n who (attrL o n who s goal))
/-- the rounds -/
noncomputable def oftS (o : List Int) (n : List (List Int)) (who : Int) (goal : List Int) : Nat → List Int
  | 0 => allL o.length
  | k + 1 => oftStep o n who goal (oftS o n who goal k)
def isOft (o : List Int) (n : List (List Int)) (who : Int) (goal R : List Int) : Prop := ∃ k, R = oftS o n who goal k ∧ oftStep o n who goal R = R
theorem oftS_fix {o : List Int} {n : List (List Int)} {who : Int} {goal : List Int} {k : Nat} (h : oftStep o n who goal (oftS o n who goal k) = oftS o n who goal k) : ∀ d, oftS o n who goal (k + d) = oftS o n who goal k
  | 0 => rfl
  | d + 1 => by rw [← Nat.add_assoc, oftS, oftS_fix h d, h]
theorem isOft.eq {o : List Int} {n : List (List Int)} {who : Int} {goal r r' : List Int} (h : isOft o n who goal r) (h' : isOft o n who goal r') : r = r' := by
  obtain ⟨t, rfl, hf⟩ := h
  obtain ⟨t', rfl, hf'⟩ := h'
  rcases Nat.le_total t t' with hl | hl
  · have := oftS_fix hf (t' - t)
    rw [show t + (t' - t) = t' from by omega] at this
    exact this.symm
  · have := oftS_fix hf' (t - t')
    rw [show t' + (t - t') = t from by omega] at this
    exact this
noncomputable def oftL (o : List Int) (n : List (List Int)) (who : Int) (goal : List Int) : List Int := @Classical.epsilon _ ⟨[]⟩ (isOft o n who goal)
theorem isOft.is {o : List Int} {n : List (List Int)} {who : Int} {goal r : List Int} (h : isOft o n who goal r) : r = oftL o n who goal := h.eq (@Classical.epsilon_spec _ (isOft o n who goal) ⟨r, h⟩)
/-! ### first choices, ranks -/
section
variable {o : List Int} {n : List (List Int)} {who : Int} {goal : List Int}
end
end Go.Proofs.Ytjjaolndencplaa
namespace Go.Proofs.Ytjjaolndencplaa
open Go.RowKit

theorem OI.pop {w : World} {lo g n c : Nat} {xs : List Int} (h : OI 2 w lo (.slice (some ⟨g, 0, none⟩) (n + 1) c) xs) : OI 2 w lo (.slice (some ⟨g, 0, none⟩) n c) (xs.take n) := by
  obtain ⟨h1, h2⟩ := h
  rcases h2 with ⟨e, _⟩ | ⟨g', cap, cur, e, hb, hg, hn, hc, hs, ht⟩
  · injection e with e1; cases e1
  · injection e with e1 e2 e3
    subst e3
    have hl : (xs.take n).length = n := by rw [List.length_take]; omega
    refine ⟨by simp, .inr ⟨g', c, cur, by rw [hl, e1], hb, hg, by omega, hc, hs, ?_⟩⟩
    rw [hl, List.map_take, ← ht, List.take_take, Nat.min_eq_left (by omega)]
    simp
def cntF (ms : List Bool) : Nat := ms.countP (fun x => x == false)
theorem cntF_set {ms : List Bool} {i : Nat} (hi : i < ms.length) (h : gb ms i = false) : cntF (ms.set i true) + 1 = cntF ms := by
  unfold cntF
  rw [gb_get hi] at h
  have h1 := List.countP_set (p := fun x => x == false) (a := true) (l := ms) (i := i) hi
  have h2 : 0 < ms.countP (fun x => x == false) := List.countP_pos_iff.2 ⟨ms[i], List.getElem_mem hi, by rw [h]; rfl⟩
  rw [h1, h, if_pos (by rfl), if_neg (by decide)]
  omega

def isF : Value → Bool
  | .bool false => true
  | _ => false
/-- how many cells of block b are false -/
def mB (w : World) (b : Nat) : Nat := match w.heap[b]? with
  | some (.cells cs _ _) => cs.toList.countP isF
  | _ => 0
theorem mB_row {w : World} {lo g n : Nat} {ms : List Bool} (h : OB 4 w lo (.slice (some ⟨g, 0, none⟩) n n) ms) : mB w g = cntF ms := by
  obtain ⟨h1, h2⟩ := h
  rcases h2 with ⟨e, _⟩ | ⟨g', cap, cur, e, hb, hg, hn, hc, hs, ht⟩
  · injection e with e1; cases e1
  · injection e with e1 e2 e3
    injection e1 with e1
    injection e1 with e1
    subst e1
    have hl : cur.toList = ms.map Value.bool := by
      rw [← ht, List.take_of_length_le]
      simp at hs ⊢
      omega
    unfold mB cntF
    rw [hg]
    show cur.toList.countP isF = _
    rw [hl, List.countP_map]
    apply List.countP_congr
    intro x _
    cases x <;> simp [isF]
/-- what holds the edges from v on, within ins -/
def Bey (E : List (List Int)) (ins : List Bool) (v : Nat) (P : Nat → Prop) : Prop :=
  (∀ u : Nat, (u : Int) ∈ gl E v → gb ins u = true → P u) ∧ ∀ x u : Nat, P x → (u : Int) ∈ gl E x → gb ins u = true → P u
/-- what l1Beyond has: the marks, what is to be looked at -/
def BInv (E : List (List Int)) (ins : List Bool) (n0 v : Nat) (out : List Bool) (T : List Int) : Prop :=
  out.length = n0 ∧ T.length + cntF out ≤ n0 + 1 ∧ (∀ x ∈ T, ∃ m : Nat, x = (m : Int) ∧ m < n0) ∧ ∀ P, Bey E ins v P → (∀ u, gb out u = true → P u) ∧ ∀ m : Nat, (m : Int) ∈ T → m = v ∨ P m
section
variable {E : List (List Int)} {ins out : List Bool} {n0 v x u : Nat} {T : List Int}
theorem BInv.pop {k : Nat} (h : BInv E ins n0 v out T) (hk : T.length = k + 1) : BInv E ins n0 v out (T.take k) ∧ T.take k = T.take k ∧ ∀ P, Bey E ins v P → ∀ m : Nat, (m : Int) = gi T k → m = v ∨ P m := by
  obtain ⟨h1, h2, h3, h4⟩ := h
  refine ⟨⟨h1, by rw [List.length_take]; omega, fun x hx => h3 x (List.mem_of_mem_take hx), fun P hP => ⟨(h4 P hP).1, fun m hm => (h4 P hP).2 m (List.mem_of_mem_take hm)⟩⟩, rfl, fun P hP m hm => (h4 P hP).2 m ?_⟩
  rw [hm]
  exact gi_mem (by omega)
theorem BInv.put (h : BInv E ins n0 v out T) (hx : ∀ P, Bey E ins v P → x = v ∨ P x) (hu : u < n0) (he : (u : Int) ∈ gl E x) (hi : gb ins u = true) (ho : gb out u = false) : BInv E ins n0 v (out.set u true) (T ++ [(u : Int)]) := by
  obtain ⟨h1, h2, h3, h4⟩ := h
  have hc := cntF_set (ms := out) (i := u) (by omega) ho
  have hP : ∀ P, Bey E ins v P → P u := fun P hb => by
    rcases hx P hb with e | e
    · rw [e] at he; exact hb.1 u he hi
    · exact hb.2 x u e he hi
  refine ⟨by simpa using h1, by rw [List.length_append, List.length_singleton]; omega, fun y hy => ?_, fun P hb => ⟨fun y hy => ?_, fun m hm => ?_⟩⟩
  · rcases List.mem_append.1 hy with hy | hy
    · exact h3 y hy
    · exact ⟨u, by simpa using hy, hu⟩
  · by_cases e : y = u
    · rw [e]; exact hP P hb
    · refine (h4 P hb).1 y ?_
      unfold gb at hy ⊢
      rwa [List.getD_eq_getElem?_getD, List.getElem?_set_ne (by omega), ← List.getD_eq_getElem?_getD] at hy
  · rcases List.mem_append.1 hm with hm | hm
    · exact (h4 P hb).2 m hm
    · have : (m : Int) = (u : Int) := by simpa using hm
      have e : m = u := by omega
      rw [e]; exact .inr (hP P hb)
end

end Go.Proofs.Ytjjaolndencplaa
namespace Go.Proofs.Ytjjaolndencplaa

/-- there is a way of one step or more -/
def Way (R : Nat → Nat → Prop) (v u : Nat) : Prop := ∀ P : Nat → Prop, (∀ x, R v x → P x) → (∀ x y, P x → R x y → P y) → P u
section
variable {R S : Nat → Nat → Prop} {a b c v u w : Nat}
theorem Way.one (h : R v u) : Way R v u := fun _ h1 _ => h1 u h
theorem Way.step (h : Way R v u) (k : R u w) : Way R v w := fun P h1 h2 => h2 u w (h P h1 h2) k
theorem Way.trans (h : Way R a b) (k : Way R b c) : Way R a c := k (fun x => Way R a x) (fun _ hx => h.step hx) (fun _ _ hx hy => hx.step hy)
theorem Way.head (h : R a b) (k : Way R b c) : Way R a c := (Way.one h).trans k
theorem Way.mono (h : Way R v u) (k : ∀ x y, R x y → S x y) : Way S v u := h (fun x => Way S v x) (fun _ hx => .one (k _ _ hx)) (fun _ _ hx hy => hx.step (k _ _ hy))
theorem Way.flip (h : Way R v u) : Way (fun x y => R y x) u v := h (fun x => Way (fun x y => R y x) x v) (fun _ hx => .one hx) (fun _ _ hx hy => .head hy hx)
/-- what holds at the start holds all along, if no step leaves it -/
theorem Way.inv {P : Nat → Prop} (h : Way R v u) (h0 : P v) (hs : ∀ x y, P x → R x y → P y) : P u := h P (fun x hx => hs v x h0 hx) hs
theorem Way.first (h : Way R v u) : ∃ x, R v x := h (fun _ => ∃ x, R v x) (fun x hx => ⟨x, hx⟩) (fun _ _ hx _ => hx)
theorem Way.last (h : Way R v u) : ∃ x, R x u := h (fun u => ∃ x, R x u) (fun _ hx => ⟨v, hx⟩) (fun x _ _ hy => ⟨x, hy⟩)
end
/-- both ways -/
def Both (R : Nat → Nat → Prop) (v u : Nat) : Prop := Way R v u ∧ Way R u v
theorem Both.symm {R : Nat → Nat → Prop} {v u : Nat} (h : Both R v u) : Both R u v := ⟨h.2, h.1⟩
theorem Both.trans {R : Nat → Nat → Prop} {a b c : Nat} (h : Both R a b) (k : Both R b c) : Both R a c := ⟨h.1.trans k.1, k.2.trans h.2⟩
theorem Both.self {R : Nat → Nat → Prop} {a b : Nat} (h : Both R a b) : Both R a a := ⟨h.1.trans h.2, h.1.trans h.2⟩

/-- whoever stands before w and has a way to w by what stands before it can be reached from w -/
def GoodL (R : Nat → Nat → Prop) (L : List Nat) : Prop := ∀ A w B, L = A ++ w :: B → ∀ u, u ∈ A → Way (fun x y => R x y ∧ (y ∈ A ∨ y = w)) u w → Way R w u
/-- what a search leaves behind: the list of what it has newly marked -/
structure DfsL (R : Nat → Nat → Prop) (D : Nat → Prop) (L : List Nat) : Prop where
  nodup : L.Nodup
  fresh : ∀ u, u ∈ L → ¬ D u
  closed : ∀ x, x ∈ L → ∀ y, R x y → D y ∨ y ∈ L
  good : GoodL R L
structure Dfs (R : Nat → Nat → Prop) (D : Nat → Prop) (v : Nat) (L : List Nat) : Prop extends DfsL R D L where
  mem : v ∈ L
  sound : ∀ u, u ∈ L → u = v ∨ Way (fun x y => R x y ∧ y ∈ L) v u
theorem DfsL.nil (R : Nat → Nat → Prop) (D : Nat → Prop) : DfsL R D [] := by
  refine ⟨List.nodup_nil, ?_, ?_, ?_⟩
  · intro u h; cases h
  · intro x h; cases h
  · intro A w B e
    cases A with
    | nil => cases e
    | cons _ _ => cases e
section
variable {R : Nat → Nat → Prop} {D : Nat → Prop} {M L : List Nat} {v c : Nat}
theorem good_app (hM : ∀ x, x ∈ M → ∀ y, R x y → D y ∨ y ∈ M) (gM : GoodL R M) (fL : ∀ u, u ∈ L → ¬ (D u ∨ u ∈ M)) (gL : GoodL R L) (hD : ∀ u, u ∈ M → ¬ D u) : GoodL R (M ++ L) := by
  intro A w B e u hu hw
  rcases List.append_eq_append_iff.1 e with ⟨A', e1, e2⟩ | ⟨B', e1, e2⟩
  · -- w stands in L: A = M ++ A'
    subst e1
    have hwL : w ∈ L := by rw [e2]; simp
    have hA' : ∀ y, y ∈ A' → y ∈ L := fun y hy => by rw [e2]; simp [hy]
    have stay : ∀ x y, x ∈ M → R x y ∧ (y ∈ M ++ A' ∨ y = w) → y ∈ M := fun x y hx hy => by
      rcases hM x hx y hy.1 with h | h
      · rcases hy.2 with h2 | h2
        · rcases List.mem_append.1 h2 with h3 | h3
          · exact h3
          · exact absurd (.inl h) (fL y (hA' y h3))
        · rw [h2] at h; exact absurd (.inl h) (fL w hwL)
      · exact h
    by_cases hm : u ∈ M
    · exact absurd (.inr (hw.inv (P := fun x => x ∈ M) hm stay)) (fL w hwL)
    · have hu' : u ∈ A' := (List.mem_append.1 hu).resolve_left hm
      refine gL A' w B e2 u hu' ?_
      have key : w ∈ M ∨ Way (fun x y => R x y ∧ (y ∈ A' ∨ y = w)) u w := by
        refine hw (fun x => x ∈ M ∨ Way (fun x y => R x y ∧ (y ∈ A' ∨ y = w)) u x) (fun x hx => ?_) (fun x y hx hy => ?_)
        · rcases hx.2 with h | h
          · rcases List.mem_append.1 h with h | h
            · exact .inl h
            · exact .inr (.one ⟨hx.1, .inl h⟩)
          · exact .inr (.one ⟨hx.1, .inr h⟩)
        · rcases hx with h | h
          · exact .inl (stay x y h hy)
          · rcases hy.2 with k | k
            · rcases List.mem_append.1 k with k | k
              · exact .inl k
              · exact .inr (h.step ⟨hy.1, .inl k⟩)
            · exact .inr (h.step ⟨hy.1, .inr k⟩)
      rcases key with h | h
      · exact absurd (.inr h) (fL w hwL)
      · exact h
  · -- M = A ++ B', w :: B = B' ++ L
    cases B' with
    | nil =>
      rw [List.nil_append] at e2
      have hwL : w ∈ L := by rw [← e2]; simp
      have e3 : M = A := by rw [e1]; simp
      subst e3
      have stay : ∀ x y, x ∈ M → R x y ∧ (y ∈ M ∨ y = w) → y ∈ M := fun x y hx hy => by
        rcases hM x hx y hy.1 with h | h
        · rcases hy.2 with h2 | h2
          · exact h2
          · rw [h2] at h; exact absurd (.inl h) (fL w hwL)
        · exact h
      exact absurd (.inr (hw.inv (P := fun x => x ∈ M) hu stay)) (fL w hwL)
    | cons x r =>
      rw [List.cons_append] at e2
      injection e2 with e3 e4
      subst e3
      exact gM A w r e1 u hu hw
theorem DfsL.app (hM : DfsL R D M) (hL : DfsL R (fun u => D u ∨ u ∈ M) L) : DfsL R D (M ++ L) where
  nodup := List.nodup_append.2 ⟨hM.nodup, hL.nodup, fun a ha b hb e => hL.fresh b hb (.inr (e ▸ ha))⟩
  fresh := fun u hu => by
    rcases List.mem_append.1 hu with h | h
    · exact hM.fresh u h
    · exact fun hd => hL.fresh u h (.inl hd)
  closed := fun x hx y hy => by
    rcases List.mem_append.1 hx with h | h
    · rcases hM.closed x h y hy with k | k
      · exact .inl k
      · exact .inr (List.mem_append.2 (.inl k))
    · rcases hL.closed x h y hy with (k | k) | k
      · exact .inl k
      · exact .inr (List.mem_append.2 (.inl k))
      · exact .inr (List.mem_append.2 (.inr k))
  good := good_app hM.closed hM.good (fun u hu => hL.fresh u hu) hL.good hM.fresh
/-- what a search has when it has looked at some of the successors of v -/
structure DfsI (R : Nat → Nat → Prop) (D : Nat → Prop) (v : Nat) (M : List Nat) : Prop extends DfsL R (fun u => D u ∨ u = v) M where
  sound : ∀ u, u ∈ M → Way (fun x y => R x y ∧ y ∈ M) v u
theorem DfsI.nil (R : Nat → Nat → Prop) (D : Nat → Prop) (v : Nat) : DfsI R D v [] := { DfsL.nil R _ with sound := (by intro u h; cases h) }
theorem DfsI.child (h : DfsI R D v M) (hr : R v c) (hL : Dfs R (fun u => (D u ∨ u = v) ∨ u ∈ M) c L) : DfsI R D v (M ++ L) := by
  refine { DfsL.app h.toDfsL hL.toDfsL with sound := fun u hu => ?_ }
  have inL : ∀ y, y ∈ L → y ∈ M ++ L := fun y hy => List.mem_append.2 (.inr hy)
  have inM : ∀ y, y ∈ M → y ∈ M ++ L := fun y hy => List.mem_append.2 (.inl hy)
  rcases List.mem_append.1 hu with k | k
  · exact (h.sound u k).mono fun x y hy => ⟨hy.1, inM y hy.2⟩
  · rcases hL.sound u k with e | e
    · rw [e]; exact .one ⟨hr, inL c hL.mem⟩
    · exact .head ⟨hr, inL c hL.mem⟩ (e.mono fun x y hy => ⟨hy.1, inL y hy.2⟩)
theorem DfsI.fin (h : DfsI R D v M) (hv : ¬ D v) (hc : ∀ y, R v y → (D y ∨ y = v) ∨ y ∈ M) : Dfs R D v (M ++ [v]) where
  nodup := List.nodup_append.2 ⟨h.nodup, by simp, fun a ha b hb e => h.fresh a ha (.inr (by rw [e]; exact List.mem_singleton.1 hb))⟩
  fresh := fun u hu => by
    rcases List.mem_append.1 hu with k | k
    · exact fun hd => h.fresh u k (.inl hd)
    · rw [List.mem_singleton.1 k]; exact hv
  closed := fun x hx y hy => by
    have key : (D y ∨ y = v) ∨ y ∈ M := by
      rcases List.mem_append.1 hx with k | k
      · exact h.closed x k y hy
      · rw [List.mem_singleton.1 k] at hy; exact hc y hy
    rcases key with (k | k) | k
    · exact .inl k
    · exact .inr (by simp [k])
    · exact .inr (by simp [k])
  good := by
    intro A w B e u hu hw
    rcases List.append_eq_append_iff.1 e with ⟨A', e1, e2⟩ | ⟨B', e1, e2⟩
    · cases A' with
      | nil =>
        rw [List.nil_append] at e2
        injection e2 with e3 _
        rw [List.append_nil] at e1
        rw [e1] at hu
        rw [← e3]
        exact (h.sound u hu).mono fun x y hy => hy.1
      | cons x r =>
        rw [List.cons_append] at e2
        injection e2 with _ e4
        cases r <;> cases e4
    · cases B' with
      | nil =>
        rw [List.nil_append] at e2
        injection e2 with e3 _
        have e5 : M = A := by rw [e1]; simp
        rw [← e5] at hu
        rw [e3]
        exact (h.sound u hu).mono fun x y hy => hy.1
      | cons x r =>
        rw [List.cons_append] at e2
        injection e2 with e3 e4
        subst e3
        exact h.good A w r e1 u hu hw
  mem := by simp
  sound := fun u hu => by
    rcases List.mem_append.1 hu with k | k
    · exact .inr ((h.sound u k).mono fun x y hy => ⟨hy.1, by simp [hy.2]⟩)
    · exact .inl (List.mem_singleton.1 k)
end
/-- the second pass: what is found from the last one left, backwards -/
theorem part_is {R : Nat → Nat → Prop} {O L : List Nat} {D : Nat → Prop} {A B : List Nat} {v : Nat} (hO : GoodL R O) (hcov : ∀ x y, R x y → x ∈ O ∧ y ∈ O) (e : O = A ++ v :: B) (hB : ∀ x, x ∈ B → D x) (hD : ∀ x y, D x → Both R x y → D y) (hv : ¬ D v)
    (hL : Dfs (fun x y => R y x) D v L) : ∀ u, u ∈ L ↔ u = v ∨ Both R v u := by
  intro u
  have noD : ∀ y, y ∈ L → ¬ D y := hL.fresh
  have toV : ∀ y, y ∈ L → y = v ∨ Way R y v := fun y hy => (hL.sound y hy).imp id (fun k => k.flip.mono fun _ _ h => h.1)
  have hin : ∀ x, x ∈ O → x ∈ L → x ∈ A ∨ x = v := fun x hx hxl => by
    rw [e] at hx
    rcases List.mem_append.1 hx with h | h
    · exact .inl h
    · rcases List.mem_cons.1 h with h | h
      · exact .inr h
      · exact absurd (hB x h) (noD x hxl)
  constructor
  · intro hu
    by_cases e1 : u = v
    · exact .inl e1
    have k := (hL.sound u hu).resolve_left e1
    have hwR : Way R u v := (toV u hu).resolve_left e1
    have huO : u ∈ O := by
      obtain ⟨x, hx⟩ := hwR.first
      exact (hcov u x hx).1
    refine .inr ⟨hO A v B e u ((hin u huO hu).resolve_right e1) ?_, hwR⟩
    have k2 : u ∈ L ∧ Way (fun x y => R y x ∧ y ∈ L ∧ (x = v ∨ x ∈ L)) v u := by
      refine k (fun x => x ∈ L ∧ Way (fun x y => R y x ∧ y ∈ L ∧ (x = v ∨ x ∈ L)) v x) (fun x hx => ⟨hx.2, .one ⟨hx.1, hx.2, .inl rfl⟩⟩) (fun x y hx hy => ⟨hy.2, hx.2.step ⟨hy.1, hy.2, .inr hx.1⟩⟩)
    refine k2.2.flip.mono fun x y h => ⟨h.1, ?_⟩
    rcases h.2.2 with h3 | h3
    · exact .inr h3
    · exact hin y (hcov x y h.1).2 h3
  · intro hu
    rcases hu with k | k
    · rw [k]; exact hL.mem
    · refine Decidable.byContradiction fun hn => ?_
      have no : ∀ x y, x ∉ L → Way R v x → R x y → y ∉ L := fun x y hx hvx hr hy => by
        rcases hL.closed y hy x hr with h | h
        · refine hv (hD x v h ⟨?_, hvx⟩)
          rcases toV y hy with h2 | h2
          · rw [h2] at hr; exact .one hr
          · exact .head hr h2
        · exact hx h
      have key : v ∉ L ∧ Way R v v := k.2 (fun x => x ∉ L ∧ Way R v x) (fun x hx => ⟨no u x hn k.1 hx, k.1.step hx⟩) (fun x y hx hy => ⟨no x y hx.1 hx.2 hy, hx.2.step hy⟩)
      exact key.1 hL.mem
/-- the parts: each that comes back to itself lies in one, and each is all that goes there and back -/
def isParts (R : Nat → Nat → Prop) (ps : List (List Int)) : Prop := (∀ p, p ∈ ps → ∃ v, Both R v v ∧ ∀ x : Int, x ∈ p ↔ ∃ u : Nat, x = (u : Int) ∧ Both R v u) ∧ ∀ v, Both R v v → ∃ p, p ∈ ps ∧ (v : Int) ∈ p
end Go.Proofs.Ytjjaolndencplaa
namespace Go.Proofs.Ytjjaolndencplaa
open Go.RowKit

/-- a queue: empty, or a piece of a row of the call's own -/
def OQ (w : World) (lo : Nat) (v : Value) (xs : List Int) : Prop :=
  (xs = [] ∧ ∃ A, v = .slice A 0 0) ∨ ∃ g off cap cur, v = .slice (some ⟨g, off, none⟩) xs.length cap ∧ lo ≤ g ∧ w.heap[g]? = some (.cells cur 2 (0, 0)) ∧ xs.length ≤ cap ∧ off + cap ≤ cur.size ∧ cap ≤ maxLen ∧ ∀ j, j < xs.length → cur.toList[off + j]? = some (.int .i64 (gi xs j))
section
variable {w w' : World} {lo : Nat} {v : Value} {xs : List Int}
theorem OQ.of (h : OI 2 w lo v xs) : OQ w lo v xs := by
  obtain ⟨h1, h2⟩ := h
  rcases h2 with ⟨e, h0⟩ | ⟨g, cap, cur, e, hb, hg, hn, hc, hs, ht⟩
  · exact .inl ⟨List.eq_nil_of_length_eq_zero h0, none, e⟩
  · refine .inr ⟨g, 0, cap, cur, e, hb, hg, hn, by omega, hc, fun j hj => ?_⟩
    have := congrArg (fun x => x[j]?) ht
    simp only [List.getElem?_take, Nat.mul_one, hj, if_true] at this
    rw [Nat.zero_add, this, List.getElem?_map, List.getElem?_eq_getElem hj, gi_get hj]
    rfl
theorem OQ.form (h : OQ w lo v xs) : ∃ A c, v = .slice A xs.length c ∧ xs.length ≤ c ∧ c ≤ 9223372036854775807 := by
  rcases h with ⟨rfl, A, rfl⟩ | ⟨g, off, cap, cur, rfl, _, _, h4, _, h5, _⟩
  · exact ⟨A, 0, rfl, Nat.le_refl _, by omega⟩
  · exact ⟨_, _, rfl, h4, by unfold maxLen at h5; omega⟩
theorem OQ.on (h : OQ w lo v xs) (hb : Below w.heap.size w w') : OQ w' lo v xs := by
  rcases h with h | ⟨g, off, cap, cur, h1, h2, h3, h4⟩
  · exact .inl h
  · exact .inr ⟨g, off, cap, cur, h1, h2, (hb.block g (Array.getElem?_eq_some_iff.1 h3).1).trans h3, h4⟩
theorem OQ.far {p : Addr} (h : OQ w lo v xs) (hp : p.block < lo) (u : Value) : OQ (w.setCell p u) lo v xs := by
  rcases h with h | ⟨g, off, cap, cur, h1, h2, h3, h4⟩
  · exact .inl h
  · exact .inr ⟨g, off, cap, cur, h1, h2, ((Chg.set (w := w) p u).block g (Array.getElem?_eq_some_iff.1 h3).1 (fun e => by have h5 : g = p.block := e; omega)).trans h3, h4⟩
theorem OQ.up {lo' : Nat} (h : OQ w lo v xs) (hl : lo' ≤ lo) : OQ w lo' v xs := by
  rcases h with h | ⟨g, off, cap, cur, h1, h2, h3, h4⟩
  · exact .inl h
  · exact .inr ⟨g, off, cap, cur, h1, Nat.le_trans hl h2, h3, h4⟩
/-- what is taken from the front, and what is left -/
theorem OQ.pop {x : Int} {r : List Int} (h : OQ w lo v (x :: r)) : ∃ g off c, v = .slice (some ⟨g, off, none⟩) (r.length + 1) (c + 1) ∧ r.length ≤ c ∧ c + 1 ≤ 9223372036854775807 ∧ w.cell? ⟨g, off, none⟩ = some (.int .i64 x) ∧
    (c = 0 → OQ w lo (.slice (some ⟨g, off, none⟩) 0 0) r) ∧ (c ≠ 0 → OQ w lo (.slice (some ⟨g, off + 1, none⟩) r.length c) r) := by
  rcases h with ⟨e, _⟩ | ⟨g, off, cap, cur, h1, h2, h3, h4, h5, h6, h7⟩
  · cases e
  · rw [List.length_cons] at h1 h4
    obtain ⟨c, rfl⟩ : ∃ c, cap = c + 1 := ⟨cap - 1, by omega⟩
    refine ⟨g, off, c, h1, by omega, by unfold maxLen at h6; omega, ?_, fun h0 => ?_, fun h0 => ?_⟩
    · have := h7 0 (by simp)
      rw [cell_of_row w g off cur _ _ h3]
      rw [Nat.add_zero] at this
      simpa [gi] using this
    · exact .inl ⟨List.eq_nil_of_length_eq_zero (by omega), _, rfl⟩
    · refine .inr ⟨g, off + 1, c, cur, rfl, h2, h3, by omega, by omega, by omega, fun j hj => ?_⟩
      have := h7 (j + 1) (by simp; omega)
      rw [show off + 1 + j = off + (j + 1) by omega, this]
      simp [gi]
end
theorem row_room (w : World) (ty g off n cap : Nat) (cur : Array Value) (hg : w.heap[g]? = some (.cells cur 2 (0, 0))) (a : Addr) (m c : Nat) (news : List Value) (hl : news.length = m) (hnews : ∀ j u, news[j]? = some u → w.cell? (a.add j) = some u) (h1 : ∀ u ∈ news, u.oneCell' = true)
    (hroom : n + m ≤ cap) (hfit : off + n + m ≤ cur.size) :
    (Builtin.append_ #[22, 22] ty #[.slice (some ⟨g, off, none⟩) n cap, .slice (some a) m c]).run Try.prog w =
      .ok (.slice (some ⟨g, off, none⟩) (n + m) cap) (w.setRow g (cur.toList.take (off + n) ++ news ++ cur.toList.drop (off + n + m)).toArray) := by
  subst hl
  obtain ⟨i0, hi0, hz0, hz1, hz2⟩ := info_parts infoI'
  have hf := run_firstCells_some (P := Try.prog) w 1 news.length a news.length c news (by omega) hnews
  have hst := run_storeCells_at Try.prog g (off + n) 2 news 0 cur w hg (by simpa using hfit) h1
  simp only [Nat.add_zero] at hst
  have ha : (⟨g, off, none⟩ : Addr).add n = ⟨g, off + n, none⟩ := by unfold Addr.add; split <;> simp_all
  simp [Builtin.append_, run_underlying Try.underlying22, sizeOf, typeInfo, hi0, hz1, Builtin.lenOf, hroom, hf, ha, hst]
/-- append of one number to a queue -/
theorem wp_pushQ {o : Oper} {a : Act} {K : Act → World → Prop} {Q : Exit → Act → World → Prop} (s x : Operand)
    (ho : o.op = .call { callee := .builtin .append, args := #[s, x], argTypes := #[22, 22] })
    (w : World) (H : Nat) (hH : w.heap.size = H) (lo : Nat) (v : Value) (xs : List Int) (hs : a.eval s = v) (hown : OQ w lo v xs) (y : Int) (hx : a.eval x = .slice (some ⟨H, 0, none⟩) 1 1)
    (hn : xs.length ≤ 4194304) (hlo : lo ≤ H)
    (h : ∀ v' w', OQ w' lo v' (xs ++ [y]) → Below lo w w' → K (a.put o.dst v') w') : o.wp Try.prog a (w.alloc (.cells #[.int .i64 y] 2)) K Q := by
  subst hH
  obtain ⟨i0, hi0, hz0, hz1, hz2⟩ := info_parts infoI'
  have hba : Below w.heap.size w (w.alloc (.cells #[.int .i64 y] 2)) := below_alloc (Nat.le_refl _) (Below.refl _ _)
  have hnew : ∀ j u, [Value.int .i64 y][j]? = some u → (w.alloc (.cells #[.int .i64 y] 2)).cell? ((⟨w.heap.size, 0, none⟩ : Addr).add j) = some u := push_news ((Box.new w _ _).cell 0)
  have hown2 := hown.on hba
  generalize hw1 : w.alloc (.cells #[.int .i64 y] 2) = w1 at *
  have hlo1 : lo ≤ w1.heap.size := Nat.le_trans hlo hba.size
  have fin : ∀ (old : Nat), OQ (w1.drew.alloc (.cells ((xs.map (Value.int .i64)).toArray ++ #[.int .i64 y] ++ Builtin.zeroCells (Value.int .i64 0).cells (grownCap w1 (xs.length + 1) old 2 - (xs.length + 1))) 2)) lo (.slice (some ⟨w1.heap.size, 0, none⟩) (xs.length + 1) (grownCap w1 (xs.length + 1) old 2)) (xs ++ [y]) := fun old => by
    have hge := grownCap_ge w1 (xs.length + 1) old 2
    have hle := grownCap_le_maxLen w1 (xs.length + 1) old 2 (by unfold maxLen; omega)
    refine .inr ⟨w1.heap.size, 0, _, _, by rw [List.length_append, List.length_singleton], hlo1, heap_alloc_new w1.drew _, by rw [List.length_append, List.length_singleton]; exact hge, ?_, hle, fun j hj => ?_⟩
    · have hz1 : (Value.int IntKind.i64 0).cells.size = 1 := rfl
      simp only [Array.size_append, List.size_toArray, size_zeroCells, hz1, List.length_map, List.length_singleton]
      omega
    · rw [List.length_append, List.length_singleton] at hj
      rw [Nat.zero_add, Array.toList_append, Array.toList_append]
      rw [List.getElem?_append_left (by simp; omega)]
      by_cases e : j < xs.length
      · rw [List.getElem?_append_left (by simpa using e)]
        simp [e, gi, List.getElem?_append_left]
      · obtain rfl : j = xs.length := by omega
        rw [List.getElem?_append_right (by simp)]
        simp [gi]
  have newb : ∀ o, Below w1.heap.size w1 (w1.drew.alloc o) := fun o => below_alloc (Nat.le_refl _) (below_drewN (Below.refl _ _) 1)
  unfold Oper.wp execOp
  rcases hown2 with ⟨rfl, A, rfl⟩ | ⟨g, off, cap, cur, rfl, h2, h3, h4, h5, h6, h7⟩
  · cases A with
    | none =>
      have hr := run_append_nil (P := Try.prog) w1 22 o.type 2 i0 (.int .i64 0) Try.underlying22 hi0 hz0 ⟨w.heap.size, 0, none⟩ 1 1 [.int .i64 y] (by rw [hz1]; rfl) hnew (by decide) (by decide) (by rw [hz2]; decide)
      simp only [ho, resolve, invoke, builtin, Sem.run_bind, Sem.run_pure, Result.andThen_ok, List.map_toArray, List.map_cons, List.map_nil, hs, hx, hr]
      have k := fin 0
      simp only [List.map_nil, List.length_nil, Nat.zero_add] at k
      exact h _ _ (by simpa using k) ((hba.mono hlo).trans ((newb _).mono hlo1))
    | some b =>
      have hr := run_append_grow (P := Try.prog) w1 22 o.type 2 i0 (.int .i64 0) Try.underlying22 hi0 hz0 b 0 0 [] (by simp) (fun j v hv => by cases hv) ⟨w.heap.size, 0, none⟩ 1 1 [.int .i64 y] (by rw [hz1]; rfl) hnew (by omega) (by omega) (by rw [hz2]; exact growslice_fits (by omega) (by omega))
      simp only [ho, resolve, invoke, builtin, Sem.run_bind, Sem.run_pure, Result.andThen_ok, List.map_toArray, List.map_cons, List.map_nil, hs, hx, hr]
      have k := fin 0
      simp only [List.map_nil, List.length_nil, Nat.zero_add] at k
      exact h _ _ (by simpa using k) ((hba.mono hlo).trans ((newb _).mono hlo1))
  · by_cases hroom : xs.length + 1 ≤ cap
    · have hr := row_room w1 o.type g off xs.length cap cur h3 ⟨w.heap.size, 0, none⟩ 1 1 [.int .i64 y] rfl hnew (by simp [Value.oneCell']) hroom (by omega)
      simp only [ho, resolve, invoke, builtin, Sem.run_bind, Sem.run_pure, Result.andThen_ok, List.map_toArray, List.map_cons, List.map_nil, hs, hx, hr]
      refine h _ _ (.inr ⟨g, off, cap, _, by rw [List.length_append, List.length_singleton], h2, setRow_heap w1 g cur _ _ _ h3, by rw [List.length_append, List.length_singleton]; exact hroom, ?_, h6, fun j hj => ?_⟩) ((hba.mono hlo).trans ⟨rfl, rfl, rfl, by simp, fun k hk => setRow_other w1 g k _ (by omega)⟩)
      · simp only [List.size_toArray, List.length_append, List.length_take, List.length_drop, Array.length_toList, List.length_singleton]
        omega
      · rw [List.length_append, List.length_singleton] at hj
        show (cur.toList.take (off + xs.length) ++ [Value.int .i64 y] ++ cur.toList.drop (off + xs.length + 1))[off + j]? = _
        rw [List.getElem?_append_left (by simp; omega)]
        by_cases e : j < xs.length
        · rw [List.getElem?_append_left (by simp; omega), List.getElem?_take, if_pos (by omega), h7 j e]
          simp [gi, List.getElem?_append_left, e]
        · obtain rfl : j = xs.length := by omega
          rw [List.getElem?_append_right (by simp; omega)]
          have hm : min (off + xs.length) cur.size = off + xs.length := by omega
          simp [gi, hm]
    · have hold : ∀ j u, (xs.map (Value.int .i64))[j]? = some u → w1.cell? ((⟨g, off, none⟩ : Addr).add j) = some u := fun j u hu => by
        have hj : j < xs.length := by have := (List.getElem?_eq_some_iff.1 hu).1; simpa using this
        have ha : (⟨g, off, none⟩ : Addr).add j = ⟨g, off + j, none⟩ := by unfold Addr.add; split <;> simp_all
        rw [ha, cell_of_row w1 g (off + j) cur _ _ h3]
        have := h7 j hj
        rw [List.getElem?_map, List.getElem?_eq_getElem hj, ← gi_get hj] at hu
        rw [← hu]
        simpa using this
      have hr := run_append_grow (P := Try.prog) w1 22 o.type 2 i0 (.int .i64 0) Try.underlying22 hi0 hz0 ⟨g, off, none⟩ xs.length cap (xs.map (Value.int .i64)) (by rw [hz1]; simp) hold ⟨w.heap.size, 0, none⟩ 1 1 [.int .i64 y] (by rw [hz1]; rfl) hnew (by omega) (by omega) (by rw [hz2]; exact growslice_fits (by omega) (by omega))
      simp only [ho, resolve, invoke, builtin, Sem.run_bind, Sem.run_pure, Result.andThen_ok, List.map_toArray, List.map_cons, List.map_nil, hs, hx, hr]
      exact h _ _ (fin cap) ((hba.mono hlo).trans ((newb _).mono hlo1))
theorem wpList_pushQ {ops : Array Oper} {rest : List Oper} {o : Oper} {a : Act} {Q : Exit → Act → World → Prop} (hgd : o.guard = none) (s x : Operand)
    (ho : o.op = .call { callee := .builtin .append, args := #[s, x], argTypes := #[22, 22] })
    (w : World) (H : Nat) (hH : w.heap.size = H) (lo : Nat) (v : Value) (xs : List Int) (hs : a.eval s = v) (hown : OQ w lo v xs) (y : Int) (hx : a.eval x = .slice (some ⟨H, 0, none⟩) 1 1)
    (hn : xs.length ≤ 4194304) (hlo : lo ≤ H)
    (h : ∀ v' w', OQ w' lo v' (xs ++ [y]) → Below lo w w' → wpList Try.prog ops Q rest (a.put o.dst v') w') : wpList Try.prog ops Q (o :: rest) a (w.alloc (.cells #[.int .i64 y] 2)) :=
  wpList_plain hgd fun _ hK => wp_pushQ s x ho w H hH lo v xs hs hown y hx hn hlo fun v' w' h1 h2 => hK _ _ (h v' w' h1 h2)
end Go.Proofs.Ytjjaolndencplaa
namespace Go.Proofs.Ytjjaolndencplaa
open Go.RowKit

/-- an edge within a set -/
def RW (n : List (List Int)) (ins : List Bool) (x y : Nat) : Prop := gb ins x = true ∧ gb ins y = true ∧ (y : Int) ∈ gl n x
def Shut (n : List (List Int)) (ins out : List Bool) (x : Nat) : Prop := ∀ u : Nat, (u : Int) ∈ gl n x → gb ins u = true → gb out u = true
structure AB (n : List (List Int)) (ins : List Bool) (N v : Nat) (out : List Bool) (T : List Int) : Prop where
  len : out.length = N
  cnt : T.length + cntF out ≤ N + 1
  rng : ∀ x, x ∈ T → ∃ m : Nat, x = (m : Int) ∧ m < N ∧ gb ins m = true
  sound : ∀ u, gb out u = true → Way (RW n ins) v u
  src : ∀ m : Nat, (m : Int) ∈ T → m = v ∨ gb out m = true
structure AO (n : List (List Int)) (ins : List Bool) (N v : Nat) (out : List Bool) (T : List Int) : Prop extends AB n ins N v out T where
  full : ∀ y : Nat, y = v ∨ gb out y = true → (y : Int) ∈ T ∨ Shut n ins out y
structure AI2 (n : List (List Int)) (ins : List Bool) (N v x j : Nat) (out : List Bool) (T : List Int) : Prop extends AB n ins N v out T where
  at_ : x = v ∨ gb out x = true
  full : ∀ y : Nat, y = v ∨ gb out y = true → (y : Int) ∈ T ∨ y = x ∨ Shut n ins out y
  row : ∀ i, i < j → i < (gl n x).length → ∀ u : Nat, gi (gl n x) i = (u : Int) → gb ins u = true → gb out u = true
theorem gb_repF {n u : Nat} : gb (List.replicate n false) u = false := by
  unfold gb
  rw [List.getD_eq_getElem?_getD, List.getElem?_replicate]
  split <;> rfl
theorem gb_setT {ls : List Bool} {u y : Nat} (h : gb (ls.set u true) y = true) : y = u ∨ gb ls y = true := by
  unfold gb at *
  by_cases e : u = y
  · exact .inl e.symm
  · rw [List.getD_eq_getElem?_getD, List.getElem?_set_ne e, ← List.getD_eq_getElem?_getD] at h
    exact .inr h
theorem gb_setK {ls : List Bool} {u y : Nat} (h : gb ls y = true) : gb (ls.set u true) y = true := by
  unfold gb at *
  by_cases e : u = y
  · subst e
    by_cases hl : u < ls.length
    · rw [List.getD_eq_getElem?_getD, List.getElem?_set_self hl]; rfl
    · rw [List.set_eq_of_length_le (by omega)]; exact h
  · rw [List.getD_eq_getElem?_getD, List.getElem?_set_ne e, ← List.getD_eq_getElem?_getD]
    exact h
theorem gb_setS {ls : List Bool} {u : Nat} (hu : u < ls.length) : gb (ls.set u true) u = true := by
  unfold gb
  rw [List.getD_eq_getElem?_getD, List.getElem?_set_self hu]; rfl
section
variable {n : List (List Int)} {ins out : List Bool} {N v x j u : Nat} {T r : List Int}
theorem AO.start (hv : v < N) (hi : gb ins v = true) : AO n ins N v (List.replicate N false) [(v : Int)] where
  len := by simp
  cnt := by
    have : cntF (List.replicate N false) ≤ N := by unfold cntF; exact Nat.le_trans List.countP_le_length (by simp)
    simp; omega
  rng := fun x hx => ⟨v, by simpa using hx, hv, hi⟩
  sound := fun u hu => by rw [gb_repF] at hu; cases hu
  src := fun m hm => .inl (by have : (m : Int) = (v : Int) := by simpa using hm
                              omega)
  full := fun y hy => by
    rcases hy with rfl | hy
    · exact .inl (by simp)
    · rw [gb_repF] at hy; cases hy
theorem AO.pop (h : AO n ins N v out ((x : Int) :: r)) : AI2 n ins N v x 0 out r where
  len := h.len
  cnt := by have := h.cnt; simp at this; omega
  rng := fun y hy => h.rng y (List.mem_cons_of_mem _ hy)
  sound := h.sound
  src := fun m hm => h.src m (List.mem_cons_of_mem _ hm)
  at_ := h.src x List.mem_cons_self
  full := fun y hy => by
    rcases h.full y hy with k | k
    · rcases List.mem_cons.1 k with k | k
      · exact .inr (.inl (by omega))
      · exact .inl k
    · exact .inr (.inr k)
  row := fun i hi => absurd hi (by omega)
theorem AI2.skip (h : AI2 n ins N v x j out T) (hj : j < (gl n x).length) (hu : gi (gl n x) j = (u : Int)) (ho : gb ins u = true → gb out u = true) : AI2 n ins N v x (j + 1) out T :=
  { h with
    row := fun i hi hl m hm hin => by
      by_cases e : i = j
      · subst e
        have : u = m := by omega
        subst this
        exact ho hin
      · exact h.row i (by omega) hl m hm hin }
theorem AI2.put (h : AI2 n ins N v x j out T) (hj : j < (gl n x).length) (hu : gi (gl n x) j = (u : Int)) (hun : u < N) (hx : gb ins x = true) (hi : gb ins u = true) (ho : gb out u = false) : AI2 n ins N v x (j + 1) (out.set u true) (T ++ [(u : Int)]) where
  len := by simpa using h.len
  cnt := by
    have := cntF_set (ms := out) (i := u) (by rw [h.len]; exact hun) ho
    have := h.cnt
    rw [List.length_append, List.length_singleton]; omega
  rng := fun y hy => by
    rcases List.mem_append.1 hy with k | k
    · exact h.rng y k
    · exact ⟨u, by simpa using k, hun, hi⟩
  sound := fun y hy => by
    rcases gb_setT hy with rfl | k
    · have he : (y : Int) ∈ gl n x := by rw [← hu]; exact gi_mem hj
      rcases h.at_ with e | e
      · rw [e] at hx he; exact .one ⟨hx, hi, he⟩
      · exact (h.sound x e).step ⟨hx, hi, he⟩
    · exact h.sound y k
  src := fun m hm => by
    rcases List.mem_append.1 hm with k | k
    · exact (h.src m k).imp id gb_setK
    · have : m = u := by have : (m : Int) = (u : Int) := by simpa using k
                         omega
      rw [this]; exact .inr (gb_setS (by rw [h.len]; exact hun))
  at_ := h.at_.imp id gb_setK
  full := fun y hy => by
    have old : y = v ∨ gb out y = true → (y : Int) ∈ T ++ [(u : Int)] ∨ y = x ∨ Shut n ins (out.set u true) y := fun hy => by
      rcases h.full y hy with k | k | k
      · exact .inl (List.mem_append.2 (.inl k))
      · exact .inr (.inl k)
      · exact .inr (.inr fun m hm hin => gb_setK (k m hm hin))
    rcases hy with hy | hy
    · exact old (.inl hy)
    · rcases gb_setT hy with rfl | k
      · exact .inl (by simp)
      · exact old (.inr k)
  row := fun i hi' hl m hm hin => by
    by_cases e : i = j
    · subst e
      have : u = m := by omega
      subst this
      exact gb_setS (by rw [h.len]; exact hun)
    · exact gb_setK (h.row i (by omega) hl m hm hin)
theorem AI2.fin (h : AI2 n ins N v x j out T) (hj : (gl n x).length ≤ j) : AO n ins N v out T :=
  { h with
    full := fun y hy => by
      rcases h.full y hy with k | k | k
      · exact .inl k
      · refine .inr fun m hm hin => ?_
        rw [k] at hm
        obtain ⟨i, hi, e⟩ := mem_gi hm
        exact h.row i (by omega) hi m e hin
      · exact .inr k }
theorem AO.fin (h : AO n ins N v out []) : ∀ u, gb out u = true ↔ Way (RW n ins) v u := by
  have shut : ∀ y, y = v ∨ gb out y = true → Shut n ins out y := fun y hy => (h.full y hy).resolve_left (by simp)
  exact fun u => ⟨h.sound u, fun hw => hw (fun x => gb out x = true) (fun x hx => shut v (.inl rfl) x hx.2.2 hx.2.1) (fun x y hx hy => shut x (.inr hx) y hy.2.2 hy.2.1)⟩
end
end Go.Proofs.Ytjjaolndencplaa
namespace Go.Proofs.Ytjjaolndencplaa
open Go.RowKit

theorem Box.on {w w' : World} {b : Nat} {t : TypeId} {cs : Array Value} (h : Box w b t cs) (hb : Below w.heap.size w w') : Box w' b t cs := h.below hb h.lt
theorem Far.alloc {lo : Nat} {wb w : World} (f : Far lo wb w) (o : Obj) : Far lo wb (w.alloc o) := f.step (below_alloc (Nat.le_refl _) (Below.refl _ _))
theorem Far.drew {lo : Nat} {wb w : World} (f : Far lo wb w) : Far lo wb w.drew := f.step (Below.drew (Below.refl _ _))
theorem Far.set {lo : Nat} {wb w : World} {p : Addr} (f : Far lo wb w) (hp : p.block < lo ∨ wb.heap.size ≤ p.block) (u : Value) : Far lo wb (w.setCell p u) := by
  refine Chg.trans f (Chg.set p u) (fun _ h => h) (fun x hx => ?_)
  have hx' : x = p.block := hx
  subst hx'
  omega
end Go.Proofs.Ytjjaolndencplaa
namespace Go.Proofs.Ytjjaolndencplaa
open Go.RowKit

section
variable {w w' : World} {s0 s1 s2 : Value} {g : ParD} {A0 A1 A2 : Option Addr} {n0 c0 n1 c1 n2 c2 : Nat}
theorem RPv.form (h : RPv w s0 s1 s2 g) : ∃ A0 n0 c0 A1 n1 c1 A2 n2 c2, s0 = .slice A0 n0 c0 ∧ s1 = .slice A1 n1 c1 ∧ s2 = .slice A2 n2 c2 := by
  obtain ⟨h1, A, m, c, e, _⟩ := h
  obtain ⟨A0, n0, c0, A1, n1, c1, e0, e1⟩ := h1.form
  exact ⟨A0, n0, c0, A1, n1, c1, A, m, c, e0, e1, e⟩
theorem RPv.ri (h : RPv w (.slice A0 n0 c0) (.slice A1 n1 c1) (.slice A2 n2 c2) g) : RI w A0 n0 c0 g.1 := h.1.ri
theorem RPv.rii (h : RPv w (.slice A0 n0 c0) (.slice A1 n1 c1) (.slice A2 n2 c2) g) : RII w A1 n1 c1 g.2.1 := h.1.rii
theorem RPv.of (h : RI w A0 n0 c0 g.1) (k : RII w A1 n1 c1 g.2.1) (l : RI w A2 n2 c2 g.2.2) : RPv w (.slice A0 n0 c0) (.slice A1 n1 c1) (.slice A2 n2 c2) g := ⟨RAv.of h k, _, _, _, rfl, l⟩
end
theorem Chg.one {w : World} (b i : Nat) (u : Value) : Chg (fun x => x = b) w (w.setCell ⟨b, i, none⟩ u) := Chg.set ⟨b, i, none⟩ u
end Go.Proofs.Ytjjaolndencplaa
namespace Go.Proofs.Ytjjaolndencplaa
open Go.RowKit

section
variable {w0 wr w : World} {s0 s1 s2 t0 t1 t2 : Value} {g g' : ParD}
end
theorem Box.c0 {w : World} {b : Nat} {t : TypeId} {x0 x1 x2 : Value} (h : Box w b t #[x0, x1, x2]) : w.cell? ⟨b, 0, none⟩ = some x0 := h.cell 0
theorem Box.c1 {w : World} {b : Nat} {t : TypeId} {x0 x1 x2 : Value} (h : Box w b t #[x0, x1, x2]) : w.cell? ⟨b, 1, none⟩ = some x1 := h.cell 1
theorem Box.c2 {w : World} {b : Nat} {t : TypeId} {x0 x1 x2 : Value} (h : Box w b t #[x0, x1, x2]) : w.cell? ⟨b, 2, none⟩ = some x2 := h.cell 2
end Go.Proofs.Ytjjaolndencplaa
namespace Go.Proofs.Ytjjaolndencplaa
open Go.RowKit

noncomputable def clB (p : Prop) : Bool := @decide p (Classical.propDecidable _)
theorem clB_yes {p : Prop} (h : p) : clB p = true := @decide_eq_true _ (Classical.propDecidable _) h
theorem clB_no {p : Prop} (h : ¬ p) : clB p = false := @decide_eq_false _ (Classical.propDecidable _) h
theorem clB_iff {p : Prop} : clB p = true ↔ p := @decide_eq_true_iff _ (Classical.propDecidable _)
end Go.Proofs.Ytjjaolndencplaa
namespace Go.Proofs.Ytjjaolndencplaa
open Go.RowKit

end Go.Proofs.Ytjjaolndencplaa
namespace Go.Proofs.Ytjjaolndencplaa
open Go.RowKit

abbrev PairD := List Int × List Int
def gp (ps : List PairD) (i : Nat) : PairD := ps.getD i ([], [])
theorem gp_get {xs : List PairD} {i : Nat} (h : i < xs.length) : gp xs i = xs[i] := by simp [gp, h]
theorem gp_mem {xs : List PairD} {i : Nat} (h : i < xs.length) : gp xs i ∈ xs := by rw [gp_get h]; exact List.getElem_mem h
theorem mem_gp {xs : List PairD} {x : PairD} (h : x ∈ xs) : ∃ i, i < xs.length ∧ gp xs i = x := by
  obtain ⟨i, hi, rfl⟩ := List.getElem_of_mem h
  exact ⟨i, hi, gp_get hi⟩
/-- a slice of pairs that reads as a list -/
def RPS (w : World) (A : Option Addr) (n c : Nat) (ps : List PairD) : Prop :=
  ps.length = n ∧ (n ≤ c ∧ c ≤ 9223372036854775807) ∧ ∀ i, i < n → ∃ b off A1 n1 c1 A2 n2 c2, A = some ⟨b, off, none⟩ ∧
    w.cell? ⟨b, off + i * 2, none⟩ = some (.slice A1 n1 c1) ∧ w.cell? ⟨b, off + i * 2 + 1, none⟩ = some (.slice A2 n2 c2) ∧ RI w A1 n1 c1 (gp ps i).1 ∧ RI w A2 n2 c2 (gp ps i).2
section
variable {w w' : World} {A : Option Addr} {n c : Nat} {ps : List PairD}
theorem RPS.len (h : RPS w A n c ps) : ps.length = n := h.1
theorem RPS.cap (h : RPS w A n c ps) : n ≤ c := h.2.1.1
theorem RPS.top (h : RPS w A n c ps) : c ≤ 9223372036854775807 := h.2.1.2
theorem RPS.at_ (h : RPS w A n c ps) {i : Nat} (hi : i < n) : ∃ b off A1 n1 c1 A2 n2 c2, A = some ⟨b, off, none⟩ ∧
    w.cell? ⟨b, off + i * 2, none⟩ = some (.slice A1 n1 c1) ∧ w.cell? ⟨b, off + i * 2 + 1, none⟩ = some (.slice A2 n2 c2) ∧ RI w A1 n1 c1 (gp ps i).1 ∧ RI w A2 n2 c2 (gp ps i).2 := h.2.2 i hi
theorem RPS.keep (h : RPS w A n c ps) (k : Keeps w w') : RPS w' A n c ps :=
  ⟨h.1, h.2.1, fun i hi => by
    obtain ⟨b, off, A1, n1, c1, A2, n2, c2, e, hc1, hc2, h1, h2⟩ := h.2.2 i hi
    exact ⟨b, off, A1, n1, c1, A2, n2, c2, e, k _ _ hc1, k _ _ hc2, h1.keep k, h2.keep k⟩⟩
end
noncomputable def pairsB (ps : List PairD) (n : Int) : Bool := decide (ps.length ≤ 4) && ps.all (fun p => setB p.1 n && setB p.2 n)
theorem pairsB_of {ps : List PairD} {n : Int} {m : Nat} (hl : ps.length = m) (hm : m ≤ 4) (h : ∀ i, i < m → (setB (gp ps i).1 n && setB (gp ps i).2 n) = true) : pairsB ps n = true := by
  unfold pairsB
  rw [Bool.and_eq_true, List.all_eq_true]
  refine ⟨decide_eq_true (by omega), fun p hp => ?_⟩
  obtain ⟨i, hi, rfl⟩ := mem_gp hp
  exact h i (by omega)
theorem pairsB_long {ps : List PairD} {n : Int} {m : Nat} (hl : ps.length = m) (hm : ¬ m ≤ 4) : pairsB ps n = false := by
  unfold pairsB
  rw [decide_eq_false (by omega)]
  rfl
theorem pairsB_no {ps : List PairD} {n : Int} {m k : Nat} (hl : ps.length = m) (hk : k < m) (h : (setB (gp ps k).1 n && setB (gp ps k).2 n) = false) : pairsB ps n = false := by
  unfold pairsB
  rw [Bool.and_eq_false_iff]
  right
  rw [List.all_eq_false]
  exact ⟨gp ps k, gp_mem (by omega), by rw [h]; simp⟩

set_option maxHeartbeats 400000 in
theorem specPairsOk (A : Option Addr) (m c : Nat) (ps : List PairD) (n : Int) (w : World) (ha : RPS w A m c ps) :
    Calls Try.prog 24 #[.slice A m c, .int .i64 n] w fun e w' => e = .returned (.bool (inR n 0 256 && pairsB ps n)) ∧ Qt w w' := by
  have b1 := ha.cap; have b2 := ha.top
  by_cases h1 : inR n 0 256 = true
  · have E0 := Lib.hid (show (inR n 0 256 && pairsB ps n) = pairsB ps n by rw [h1]; rfl)
    by_cases h2 : m ≤ 4
    · go_enter Try.func24, Try.ntmps24
      go_wp2_with (go_at_call 48; refine (l1In _ _ _ _).mono ?_; rintro e w' ⟨rfl, q, rfl⟩)
      go_loopw [5] (fun i wr => ∃ k : Nat, k ≤ m ∧ i = .int .i64 k ∧ (∀ j, j < k → (setB (gp ps j).1 n && setB (gp ps j).2 n) = true) ∧ ∃ q, wr = w.drewN q) (fun i _ => m - (intOf i).toNat)
      case atStart => exact ⟨0, Nat.zero_le _, rfl, by omega, _, rfl⟩
      case round =>
        obtain ⟨k, hk, rfl, hall, q, rfl⟩ := hrel
        have HA := Lib.hid hall
        clear hall
        by_cases hlt : k < m
        · obtain ⟨b, off, A1, n1, c1, A2, n2, c2, rfl, hc1, hc2, r1, r2⟩ := ha.at_ hlt
          by_cases h3 : setB (gp ps k).1 n = true
          · by_cases h4 : setB (gp ps k).2 n = true
            · have H := Lib.hid (show (setB (gp ps k).1 n && setB (gp ps k).2 n) = true by rw [h3, h4]; rfl)
              go_wp2_with fail
              refine (SetOk _ _ _ _ _ _ (r1.keep (Qt.keeps ⟨_, rfl⟩))).mono ?_; rintro e w' ⟨rfl, q1, rfl⟩
              go_wp2_with fail
              refine (SetOk _ _ _ _ _ _ (r2.keep (Qt.keeps ⟨_, rfl⟩))).mono ?_; rintro e w' ⟨rfl, q2, rfl⟩
              go_wp2
              go_roundw
              case rel => exact ⟨k + 1, by omega, by go_num, all_succ HA.out H.out, _, rfl⟩
              case measure => simp [intOf]; omega
            · replace h4 : setB (gp ps k).2 n = false := by simpa using h4
              have E := Lib.hid (pairsB_no ha.len hlt (show (setB (gp ps k).1 n && setB (gp ps k).2 n) = false by rw [h3, h4]; rfl))
              go_wp2_with fail
              refine (SetOk _ _ _ _ _ _ (r1.keep (Qt.keeps ⟨_, rfl⟩))).mono ?_; rintro e w' ⟨rfl, q1, rfl⟩
              go_wp2_with fail
              refine (SetOk _ _ _ _ _ _ (r2.keep (Qt.keeps ⟨_, rfl⟩))).mono ?_; rintro e w' ⟨rfl, q2, rfl⟩
              go_wp2
              go_ret
              exact ⟨ret_b (by rw [E0.out, E.out]), _, rfl⟩
          · replace h3 : setB (gp ps k).1 n = false := by simpa using h3
            have E := Lib.hid (pairsB_no ha.len hlt (show (setB (gp ps k).1 n && setB (gp ps k).2 n) = false by rw [h3]; rfl))
            go_wp2_with fail
            refine (SetOk _ _ _ _ _ _ (r1.keep (Qt.keeps ⟨_, rfl⟩))).mono ?_; rintro e w' ⟨rfl, q1, rfl⟩
            go_wp2
            go_ret
            exact ⟨ret_b (by rw [E0.out, E.out]), _, rfl⟩
        · obtain rfl : k = m := by omega
          have E := Lib.hid (pairsB_of ha.len h2 HA.out)
          go_wp2
          go_ret
          exact ⟨ret_b (by rw [E0.out, E.out]), _, rfl⟩
    · have E := Lib.hid (pairsB_long (n := n) ha.len h2)
      go_enter Try.func24, Try.ntmps24
      go_wp2_with (go_at_call 48; refine (l1In _ _ _ _).mono ?_; rintro e w' ⟨rfl, q, rfl⟩)
      go_ret
      exact ⟨ret_b (by rw [E0.out, E.out]), _, rfl⟩
  · replace h1 : inR n 0 256 = false := by simpa using h1
    have E := Lib.hid (show (inR n 0 256 && pairsB ps n) = false by rw [h1]; rfl)
    go_enter Try.func24, Try.ntmps24
    go_wp2_with (go_at_call 48; refine (l1In _ _ _ _).mono ?_; rintro e w' ⟨rfl, q, rfl⟩)
    go_ret
    exact ⟨ret_b E.out.symm, _, rfl⟩

set_option maxHeartbeats 400000 in
theorem arePairs (A : Option Addr) (m c : Nat) (ps : List PairD) (n : Int) (w : World) (B : Nat) (hB : B ≤ w.heap.size) (ha : RPS w A m c ps) :
    Calls Try.prog 32 #[.slice A m c, .int .i64 n] w fun e w' => e = .returned (.bool (pairsB ps n)) ∧ Below B w w' := by
  have b1 := ha.cap; have b2 := ha.top
  go_enter Try.func32, Try.ntmps32
  go_wp2
  go_loopw [9] (fun i wr => ∃ k : Nat, k ≤ m ∧ i = .int .i64 k ∧ (∀ j, j < k → (setB (gp ps j).1 n && setB (gp ps j).2 n) = true) ∧ Below w.heap.size w wr) (fun i _ => m - (intOf i).toNat)
  case atStart => exact ⟨0, Nat.zero_le _, rfl, by omega, Below.refl _ _⟩
  case round =>
    obtain ⟨k, hk, rfl, hall, hbr⟩ := hrel
    have HA := Lib.hid hall
    clear hall
    by_cases hlt : k < m
    · obtain ⟨b, off, A1, n1, c1, A2, n2, c2, rfl, hc1, hc2, r1, r2⟩ := (ha.keep (keeps_below hbr)).at_ hlt
      replace r1 := r1.keep (keeps_alloc wr (.cells #[.slice A1 n1 c1, .slice A2 n2 c2] 53))
      replace r2 := r2.keep (keeps_alloc wr (.cells #[.slice A1 n1 c1, .slice A2 n2 c2] 53))
      have hba : Below w.heap.size w (wr.alloc (.cells #[.slice A1 n1 c1, .slice A2 n2 c2] 53)) := below_alloc (Nat.le_refl _) hbr
      by_cases h3 : setB (gp ps k).1 n = true
      · by_cases h4 : setB (gp ps k).2 n = true
        · have H := Lib.hid (show (setB (gp ps k).1 n && setB (gp ps k).2 n) = true by rw [h3, h4]; rfl)
          go_wp2_with fail
          refine (isSet _ _ _ _ _ _ r1).mono ?_; rintro e w' ⟨rfl, q1, rfl⟩
          go_wp2_with fail
          refine (isSet _ _ _ _ _ _ (r2.keep (Qt.keeps ⟨_, rfl⟩))).mono ?_; rintro e w' ⟨rfl, q2, rfl⟩
          go_wp2
          go_roundw
          case rel => exact ⟨k + 1, by omega, by go_num, all_succ HA.out H.out, below_drewN hba _⟩
          case measure => simp [intOf]; omega
        · replace h4 : setB (gp ps k).2 n = false := by simpa using h4
          have E := Lib.hid (pairsB_no ha.len hlt (show (setB (gp ps k).1 n && setB (gp ps k).2 n) = false by rw [h3, h4]; rfl))
          go_wp2_with fail
          refine (isSet _ _ _ _ _ _ r1).mono ?_; rintro e w' ⟨rfl, q1, rfl⟩
          go_wp2_with fail
          refine (isSet _ _ _ _ _ _ (r2.keep (Qt.keeps ⟨_, rfl⟩))).mono ?_; rintro e w' ⟨rfl, q2, rfl⟩
          go_wp2
          go_ret
          exact ⟨ret_b E.out.symm, (below_drewN hba _).mono hB⟩
      · replace h3 : setB (gp ps k).1 n = false := by simpa using h3
        have E := Lib.hid (pairsB_no ha.len hlt (show (setB (gp ps k).1 n && setB (gp ps k).2 n) = false by rw [h3]; rfl))
        go_wp2_with fail
        refine (isSet _ _ _ _ _ _ r1).mono ?_; rintro e w' ⟨rfl, q1, rfl⟩
        go_wp2
        go_ret
        exact ⟨ret_b E.out.symm, (below_drewN hba _).mono hB⟩
    · obtain rfl : k = m := by omega
      by_cases h2 : k ≤ 4
      · have E := Lib.hid (pairsB_of ha.len h2 HA.out)
        go_wp2
        go_ret
        exact ⟨ret_b (by rw [E.out]; simp; omega), hbr.mono hB⟩
      · have E := Lib.hid (pairsB_long (n := n) ha.len h2)
        go_wp2
        go_ret
        exact ⟨ret_b (by rw [E.out]; simp; omega), hbr.mono hB⟩

end Go.Proofs.Ytjjaolndencplaa
namespace Go.Proofs.Ytjjaolndencplaa
open Go.RowKit

def szP (p : PairD) : Nat := p.1.length + p.2.length
def sumP (ps : List PairD) (k : Nat) : Nat := ((ps.take k).map szP).sum
def szPs (ps : List PairD) : Nat := ps.length + (ps.map szP).sum
theorem sumP_succ {ps : List PairD} {k : Nat} (h : k < ps.length) : sumP ps (k + 1) = sumP ps k + szP (gp ps k) := by
  unfold sumP
  rw [List.take_succ_eq_append_getElem h, List.map_append, List.sum_append, gp_get h]
  simp
theorem sumP_all {ps : List PairD} {k : Nat} (h : ps.length = k) : szPs ps = k + sumP ps k := by
  unfold sumP szPs
  rw [← h, List.take_length]
theorem sumP_mono {ps : List PairD} {k m : Nat} (h : k ≤ m) : sumP ps k ≤ sumP ps m := by
  have key : ∀ (qs : List PairD) (k : Nat), ((qs.take k).map szP).sum ≤ (qs.map szP).sum := by
    intro qs
    induction qs with
    | nil => simp
    | cons a r ih =>
      intro k
      cases k with
      | zero => simp
      | succ k => simp only [List.take_succ_cons, List.map_cons, List.sum_cons]; have := ih k; omega
  unfold sumP
  rw [show ps.take k = (ps.take m).take k from by rw [List.take_take, Nat.min_eq_left h]]
  exact key _ _

set_option maxHeartbeats 400000 in
theorem szPairS (A : Option Addr) (m c : Nat) (ps : List PairD) (l : Int) (w : World) (B : Nat) (hB : B ≤ w.heap.size) (ha : RPS w A m c ps) (h0 : 0 ≤ l) (h1 : l ≤ 1048576) :
    Calls Try.prog 6 #[.slice A m c, .int .i64 l] w fun e w' => e = .returned (.int .i64 (szF l (szPs ps))) ∧ Below B w w' := by
  have b1 := ha.cap; have b2 := ha.top
  have hall := sumP_all ha.len
  have HALL := Lib.hid hall
  clear hall
  by_cases hm : (m : Int) ≤ l
  · go_enter Try.func6, Try.ntmps6
    go_wp2
    go_loopw [1, 5] (fun s i wr => ∃ (k : Nat) (r : Int), k ≤ m ∧ i = .int .i64 k ∧ s = .int .i64 r ∧ 0 ≤ r ∧ r ≤ l ∧ r = l - m - sumP ps k ∧ Below w.heap.size w wr) (fun _ i _ => m - (intOf i).toNat)
    case atStart => exact ⟨0, l - m, Nat.zero_le _, rfl, rfl, by omega, by omega, by simp [sumP], Below.refl _ _⟩
    case round =>
      obtain ⟨k, r, hk, rfl, rfl, hr0, hr1, hr, hbr⟩ := hrel
      have HR := Lib.hid hr
      clear hr
      by_cases hlt : k < m
      · obtain ⟨b, off, A1, n1, c1, A2, n2, c2, rfl, hc1, hc2, r1, r2⟩ := (ha.keep (keeps_below hbr)).at_ hlt
        have t1 := r1.cap; have t2 := r1.top; have t3 := r2.cap; have t4 := r2.top
        have hs : ((sumP ps (k + 1) : Nat) : Int) = sumP ps k + (n1 + n2) := by
          rw [sumP_succ (by rw [ha.len]; exact hlt)]; unfold szP; rw [r1.len, r2.len]; omega
        have HS := Lib.hid hs
        clear hs
        by_cases h2 : (n1 : Int) + n2 ≤ r
        · have E1 := Lib.hid (szF_yes h2)
          go_wp2_with fail
          refine (szPair _ _ _ _ _ _ _ _ _ (Nat.le_refl _) hr0 (by omega) (by omega) (by omega)).mono ?_; rintro e w1 ⟨rfl, hb1⟩
          rw [E1.out]
          go_wp2
          go_roundw
          case rel => exact ⟨k + 1, r - (n1 + n2), by omega, by go_num, rfl, by omega, by omega, by rw [HS.out, HR.out]; omega, below_then hb1 hbr.size hbr⟩
          case measure => simp [intOf]; omega
        · have E1 := Lib.hid (szF_no h2)
          have E2 := Lib.hid (show szF l (szPs ps) = -1 from szF_no (by
            rw [HALL.out]
            have h5 := sumP_mono (ps := ps) (show k + 1 ≤ m by omega)
            have h6 := HS.out
            have h7 := HR.out
            omega))
          go_wp2_with fail
          refine (szPair _ _ _ _ _ _ _ _ _ (Nat.le_refl _) hr0 (by omega) (by omega) (by omega)).mono ?_; rintro e w1 ⟨rfl, hb1⟩
          rw [E1.out]
          go_wp2
          go_ret
          exact ⟨ret_i E2.out.symm, (below_then hb1 hbr.size hbr).mono hB⟩
      · obtain rfl : k = m := by omega
        have E2 := Lib.hid (show szF l (szPs ps) = r from by
          rw [szF_yes (by rw [HALL.out]; have := HR.out; omega), HALL.out, HR.out]; omega)
        go_wp2
        go_ret
        exact ⟨ret_i E2.out.symm, hbr.mono hB⟩
  · have E2 := Lib.hid (show szF l (szPs ps) = -1 from szF_no (by rw [HALL.out]; omega))
    go_enter Try.func6, Try.ntmps6
    go_wp2
    go_ret
    exact ⟨ret_i E2.out.symm, Below.refl _ _⟩

def eqPs (ps qs : List PairD) : Bool := decide (ps = qs)
theorem gp_ext {xs ys : List PairD} (hl : xs.length = ys.length) (h : ∀ j, j < xs.length → gp xs j = gp ys j) : xs = ys := by
  refine List.ext_getElem hl fun i a b => ?_
  have := h i a
  rwa [gp_get a, gp_get b] at this

set_option maxHeartbeats 400000 in
theorem eqPairS (A A' : Option Addr) (n c m d : Nat) (ps qs : List PairD) (w : World) (B : Nat) (hB : B ≤ w.heap.size) (ha : RPS w A n c ps) (hb : RPS w A' m d qs) :
    Calls Try.prog 13 #[.slice A n c, .slice A' m d] w fun e w' => e = .returned (.bool (eqPs ps qs)) ∧ Below B w w' := by
  have b1 := ha.cap; have b2 := ha.top; have b3 := hb.cap; have b4 := hb.top
  by_cases hnm : n = m
  · subst hnm
    have hnn : ((n : Int) != (n : Int)) = false := by simp
    go_enter Try.func13, Try.ntmps13
    go_wp2
    go_loopw [5] (fun i wr => ∃ k : Nat, k ≤ n ∧ i = .int .i64 k ∧ (∀ j, j < k → gp ps j = gp qs j) ∧ Below w.heap.size w wr) (fun i _ => n - (intOf i).toNat)
    case atStart => exact ⟨0, Nat.zero_le _, rfl, by omega, Below.refl _ _⟩
    case round =>
      obtain ⟨k, hk, rfl, hall, hbr⟩ := hrel
      have HA := Lib.hid hall
      clear hall
      by_cases hlt : k < n
      · have hki : (k : Int) < (n : Int) := by omega
        have hk0 : (0 : Int) ≤ (k : Int) := by omega
        obtain ⟨b, off, A1, n1, c1, A2, n2, c2, rfl, hc1, hc2, r1, r2⟩ := (ha.keep (keeps_below hbr)).at_ hlt
        obtain ⟨b', off', A3, n3, c3, A4, n4, c4, rfl, hc3, hc4, r3, r4⟩ := (hb.keep (keeps_below hbr)).at_ hlt
        by_cases he : (eqL (gp ps k).1 (gp qs k).1 && eqL (gp ps k).2 (gp qs k).2) = true
        · have H := Lib.hid (show gp ps k = gp qs k by
            rw [Bool.and_eq_true] at he
            exact Prod.ext (of_decide_eq_true he.1) (of_decide_eq_true he.2))
          go_wp2
          go_region_held3 (fun w' => w'.cell? ⟨b, off + k * 2, none⟩ = some (.slice A1 n1 c1) ∧ w'.cell? ⟨b, off + k * 2 + 1, none⟩ = some (.slice A2 n2 c2) ∧ w'.cell? ⟨b', off' + k * 2, none⟩ = some (.slice A3 n3 c3) ∧ w'.cell? ⟨b', off' + k * 2 + 1, none⟩ = some (.slice A4 n4 c4)) (first | exact ⟨hc1, hc2, hc3, hc4⟩ | exact ⟨K1 _ _ hc1, K1 _ _ hc2, K1 _ _ hc3, K1 _ _ hc4⟩)
            (first
              | (go_at_call 42; refine (eqPair _ _ _ _ _ _ _ _ _ _ _ _ _ _ _ _ _ _ (Nat.le_refl _) (by exact r1) (by exact r2) (by exact r3) (by exact r4)).mono ?_; rintro e w1 ⟨rfl, hb1⟩; replace hb1 := below_undrew hb1; have K1 := keeps_below hb1))
          go_wp2
          go_roundw
          case rel => exact ⟨k + 1, by omega, by go_num, all_succ HA.out H.out, below_then hb1 hbr.size hbr⟩
          case measure => simp [intOf]; omega
        · replace he : (eqL (gp ps k).1 (gp qs k).1 && eqL (gp ps k).2 (gp qs k).2) = false := by simpa using he
          have E := Lib.hid (show eqPs ps qs = false from decide_eq_false (by
            rintro rfl
            simp [eqL] at he))
          go_wp2
          go_region_held3 (fun w' => w'.cell? ⟨b, off + k * 2, none⟩ = some (.slice A1 n1 c1) ∧ w'.cell? ⟨b, off + k * 2 + 1, none⟩ = some (.slice A2 n2 c2) ∧ w'.cell? ⟨b', off' + k * 2, none⟩ = some (.slice A3 n3 c3) ∧ w'.cell? ⟨b', off' + k * 2 + 1, none⟩ = some (.slice A4 n4 c4)) (first | exact ⟨hc1, hc2, hc3, hc4⟩ | exact ⟨K1 _ _ hc1, K1 _ _ hc2, K1 _ _ hc3, K1 _ _ hc4⟩)
            (first
              | (go_at_call 42; refine (eqPair _ _ _ _ _ _ _ _ _ _ _ _ _ _ _ _ _ _ (Nat.le_refl _) (by exact r1) (by exact r2) (by exact r3) (by exact r4)).mono ?_; rintro e w1 ⟨rfl, hb1⟩; replace hb1 := below_undrew hb1; have K1 := keeps_below hb1))
          go_wp2
          go_ret
          exact ⟨ret_b E.out.symm, (below_then hb1 hbr.size hbr).mono hB⟩
      · obtain rfl : k = n := by omega
        have E := Lib.hid (show eqPs ps qs = true from decide_eq_true (gp_ext (by rw [ha.len, hb.len]) (fun j hj => HA.out j (by rw [← ha.len]; exact hj))))
        go_wp2
        go_ret
        exact ⟨ret_b E.out.symm, hbr.mono hB⟩
  · have hnn : ((n : Int) != (m : Int)) = true := by simp; omega
    have E := Lib.hid (show eqPs ps qs = false from decide_eq_false (by rintro rfl; exact hnm (by rw [← ha.len, ← hb.len])))
    clear hnm
    go_enter Try.func13, Try.ntmps13
    go_wp2
    go_ret
    exact ⟨ret_b E.out.symm, Below.refl _ _⟩
end Go.Proofs.Ytjjaolndencplaa
namespace Go.Proofs.Ytjjaolndencplaa
open Go.RowKit

/-- the j-th slice of a list of pairs laid flat -/
def fl (ps : List PairD) (j : Nat) : List Int := if j % 2 = 0 then (gp ps (j / 2)).1 else (gp ps (j / 2)).2
theorem fl_even (ps : List PairD) (k : Nat) : fl ps (k * 2) = (gp ps k).1 := by unfold fl; rw [if_pos (by omega), show k * 2 / 2 = k from by omega]
theorem fl_odd (ps : List PairD) (k : Nat) : fl ps (k * 2 + 1) = (gp ps k).2 := by unfold fl; rw [if_neg (by omega), show (k * 2 + 1) / 2 = k from by omega]
/-- a slice of pairs of the call's own: the row, and the rows in it, none shared -/
def OPS (w : World) (lo : Nat) (v : Value) (ps : List PairD) : Prop :=
  ∃ cs, w.ownsRow lo 53 2 v ps.length cs ∧ OL 2 w lo cs (fl ps) ∧ Dis cs
theorem OPS.below {w w' : World} {lo : Nat} {v : Value} {ps : List PairD} (h : OPS w lo v ps) (hb : Below w.heap.size w w') : OPS w' lo v ps := by
  obtain ⟨cs, h1, h2, h3⟩ := h
  exact ⟨cs, row_below h1 hb, h2.below hb, h3⟩
theorem OPS.form {w : World} {lo : Nat} {v : Value} {ps : List PairD} (h : OPS w lo v ps) : ∃ A c, v = .slice A ps.length c := by
  obtain ⟨cs, h1, _⟩ := h
  obtain ⟨A, c, h2, _⟩ := row_form h1
  exact ⟨A, c, h2⟩
theorem OPS.reads {w : World} {lo n c : Nat} {A : Option Addr} {ps : List PairD} (h : OPS w lo (.slice A n c) ps) : RPS w A n c ps := by
  obtain ⟨cs, h1, h2, _⟩ := h
  obtain ⟨A', c', e, hc1, hc2, hg⟩ := row_form h1
  injection e with e1 e2 e3
  subst e1; subst e2; subst e3
  refine ⟨rfl, ⟨hc1, hc2⟩, fun i hi => ?_⟩
  obtain ⟨g, rfl⟩ := hg (by omega)
  have hl := row_len h1
  have o1 := h2 (i * 2) (by omega)
  have o2 := h2 (i * 2 + 1) (by omega)
  have k1 := row_cell h1 (j := i * 2) (by omega)
  have k2 := row_cell h1 (j := i * 2 + 1) (by omega)
  rw [fl_even] at o1
  rw [fl_odd] at o2
  obtain ⟨A1, c1, e1⟩ := o1.form
  obtain ⟨A2, c2, e2⟩ := o2.form
  rw [e1] at o1 k1
  rw [e2] at o2 k2
  exact ⟨g, 0, A1, _, c1, A2, _, c2, rfl, by simpa using k1, by simpa using k2, o1.reads, o2.reads⟩

theorem infoPair : (Try.prog.info? 53).map (fun i => (i.zero, i.size, i.bytes)) = some (some (.agg #[.slice none 0 0, .slice none 0 0]), 2, 48) := by kernel_rfl
theorem made_two (n : Nat) : (madeCells (Value.agg #[.slice none 0 0, .slice none 0 0]).cells (n * 2)).toList = List.replicate (n * 2) (.slice none 0 0) := by
  refine List.ext_getElem (by simp [madeCells]) fun i h1 h2 => ?_
  simp only [madeCells, Value.cells, Array.toList_map, List.getElem_map, Array.getElem_toList, Array.getElem_range, List.getElem_replicate]
  have : i % 2 = 0 ∨ i % 2 = 1 := by omega
  rcases this with h | h <;> simp [h]

set_option maxHeartbeats 800000 in
theorem toPairS (A : Option Addr) (n c : Nat) (ps : List PairD) (w : World) (B : Nat) (hB : B ≤ w.heap.size) (ha : RPS w A n c ps) (hn : szPs ps ≤ 1048576) :
    Calls Try.prog 9 #[.slice A n c] w fun e w' => ∃ v, e = .returned v ∧ OPS w' B v ps ∧ Below B w w' := by
  have b1 := ha.cap; have b2 := ha.top
  have hall := sumP_all ha.len
  have hn' : n ≤ 1048576 := by omega
  have hsz : ∀ k, k < n → szP (gp ps k) ≤ 1048576 := fun k hk => by
    have h5 := sumP_mono (ps := ps) (show k + 1 ≤ n by omega)
    rw [sumP_succ (by rw [ha.len]; exact hk)] at h5
    omega
  have HSZ := Lib.hid hsz
  clear hsz hall
  obtain ⟨ib, hi, hz0, hz1, hz2⟩ := info_parts infoPair
  go_enter Try.func9, Try.ntmps9
  go_wp2_with (refine wpList_make_full _ rfl (.tmp 6) (.tmp 6) 32 rfl w.heap.size 53 ib (.agg #[.slice none 0 0, .slice none 0 0]) 2 Try.underlying32 hi hz0 hz1 .i64 .i64 _ _ n rfl rfl rfl rfl (by rw [hz2]; omega) (by unfold maxLen; omega) (Nat.le_refl _) ?_; intro w1 hown hgrow)
  rw [made_two] at hown
  have hbel : Below w.heap.size w w1 := (Below.refl _ _).grown hgrow (Nat.le_refl _) (by simp)
  have hlt1 : w.heap.size + 1 ≤ w1.heap.size := by
    have := World.ownsRow.lt hown w.heap.size rfl
    omega
  have HG := Lib.hid hgrow
  clear hgrow
  go_loopw [4] (fun i wr => ∃ j : Nat, j ≤ n ∧ i = .int .i64 j ∧ Below w.heap.size w wr ∧ w.heap.size + 1 ≤ wr.heap.size ∧
      ∃ cs, wr.ownsRow w.heap.size 53 2 (.slice (some ⟨w.heap.size, 0, none⟩) n n) n cs ∧ OL 2 wr (w.heap.size + 1) cs (fun i => if i < j * 2 then fl ps i else []) ∧ Dis cs) (fun i _ => n - (intOf i).toNat)
  case atStart => exact ⟨0, Nat.zero_le _, rfl, hbel, hlt1, _, hown, (OL.nil rfl).congr (fun i _ => by simp), Dis.nil⟩
  case round =>
    obtain ⟨j, hj, rfl, hb, hsz1, cs, hrow, hol, hdis⟩ := hrel
    have HR := Lib.hid hrow
    have HO := Lib.hid hol
    have HD := Lib.hid hdis
    clear hrow hol hdis hown
    by_cases hlt : j < n
    · obtain ⟨b, off, A1, n1, c1, A2, n2, c2, rfl, hc1, hc2, r1, r2⟩ := (ha.keep (keeps_below hb)).at_ hlt
      have hsz := HSZ.out j hlt
      unfold szP at hsz
      rw [r1.len, r2.len] at hsz
      go_wp2_with fail
      refine (toPair _ _ _ _ _ _ _ _ _ _ (Nat.le_refl _) r1 r2 (by omega) (by omega)).mono ?_; rintro e w2 ⟨v, u, rfl, hv, hu, hap, hb2⟩
      obtain ⟨A3, c3, rfl⟩ := hv.form
      obtain ⟨A4, c4, rfl⟩ := hu.form
      have hr2 := row_below HR.out hb2
      have ho2 := HO.out.below hb2
      have hl := row_len HR.out
      have HL := Lib.hid hl
      clear hl
      have k1 := row_cell hr2 (j := j * 2) (by omega)
      have k2 := row_cell hr2 (j := j * 2 + 1) (by omega)
      have f1 := World.ownsRow.frozenAt hr2 (j * 2)
      have f2 := World.ownsRow.frozenAt hr2 (j * 2 + 1)
      have hs1 := (World.ownsRow.stored hr2 (j * 2) (.slice A3 (gp ps j).1.length c3)).1
      have hs2 := (World.ownsRow.stored hs1 (j * 2 + 1) (.slice A4 (gp ps j).2.length c4)).1
      have hx := apart_new HO.out hv (Nat.le_refl _)
      have hy := apart_new HO.out hu (Nat.le_refl _)
      have hv' := ((hv.more (lo' := w.heap.size + 1) hsz1).far (p := ⟨w.heap.size, j * 2, none⟩) (by show w.heap.size < _; omega) (.slice A3 (gp ps j).1.length c3)).far (p := ⟨w.heap.size, j * 2 + 1, none⟩) (by show w.heap.size < _; omega) (.slice A4 (gp ps j).2.length c4)
      have hu' := ((hu.more (lo' := w.heap.size + 1) hsz1).far (p := ⟨w.heap.size, j * 2, none⟩) (by show w.heap.size < _; omega) (.slice A3 (gp ps j).1.length c3)).far (p := ⟨w.heap.size, j * 2 + 1, none⟩) (by show w.heap.size < _; omega) (.slice A4 (gp ps j).2.length c4)
      have ho' := (ho2.far (p := ⟨w.heap.size, j * 2, none⟩) (by show w.heap.size < _; omega) (.slice A3 (gp ps j).1.length c3)).far (p := ⟨w.heap.size, j * 2 + 1, none⟩) (by show w.heap.size < _; omega) (.slice A4 (gp ps j).2.length c4)
      have ho3 := (ho'.set_ (k := j * 2) (by rw [HL.out]; omega) hv').set_ (k := j * 2 + 1) (by rw [List.length_set, HL.out]; omega) hu'
      have hd3 : Dis ((cs.set (j * 2) (.slice A3 (gp ps j).1.length c3)).set (j * 2 + 1) (.slice A4 (gp ps j).2.length c4)) := by
        refine (HD.out.set_ (by rw [HL.out]; omega) (fun i hi _ => hx i hi)).set_ (by rw [List.length_set, HL.out]; omega) (fun i hi hne => ?_)
        rw [List.length_set] at hi
        rw [gv_set (by rw [HL.out]; omega)]
        by_cases e : j * 2 = i
        · rw [if_pos e]; exact hap
        · rw [if_neg e]; exact hy i hi
      have HO3 := Lib.hid ho3
      have HR3 := Lib.hid hs2
      have HD3 := Lib.hid hd3
      clear ho3 ho' hu' hv' hs1 hs2 hd3 hx hy
      go_wp2
      go_roundw
      case rel =>
        refine ⟨j + 1, by omega, by go_num, below_set (Nat.le_refl _) (below_set (Nat.le_refl _) (below_then hb2 hb.size hb)), by have := hb2.size; simp; omega, _, HR3.out, HO3.out.congr (fun i hi => ?_), HD3.out⟩
        simp only [List.length_set, HL.out] at hi
        by_cases e1 : j * 2 + 1 = i
        · subst e1
          rw [if_pos rfl, if_pos (by omega), fl_odd]
        · rw [if_neg e1]
          by_cases e2 : j * 2 = i
          · subst e2
            rw [if_pos rfl, if_pos (by omega), fl_even]
          · rw [if_neg e2]
            by_cases e3 : i < j * 2
            · rw [if_pos e3, if_pos (by omega)]
            · rw [if_neg e3, if_neg (by omega)]
      case measure => simp [intOf]; omega
    · obtain rfl : j = n := by omega
      go_wp2
      go_ret
      refine ⟨_, rfl, ⟨cs, ?_, (HO.out.congr (fun i hi => ?_)).more (by omega), HD.out⟩, hb.mono hB⟩
      · rw [ha.len]; exact row_more HR.out hB
      · rw [row_len HR.out] at hi; rw [if_pos hi]
end Go.Proofs.Ytjjaolndencplaa
namespace Go.Proofs.Ytjjaolndencplaa
open Go.RowKit

theorem eqPs_self (ps : List PairD) : eqPs ps ps = true := by simp [eqPs]
/-- a row of rows, those ahead of m turned from G to F: one more is turned -/
theorem OL.turn {E : TypeId} {w w2 : World} {lo m : Nat} {cs : List Value} {F G : Nat → List Int} {u : Value} (h : OL E w lo cs (fun i => if i < m then F i else G i)) (hd : Dis cs) (hm : m < cs.length) (hu : gv cs m = u) (hn : OI E w2 lo u (F m)) (hg : w.grownBy w2 u.ownBlock) :
    OL E w2 lo cs (fun i => if i < m + 1 then F i else G i) := by
  intro i hi
  by_cases e : i = m
  · subst e
    dsimp only
    rw [if_pos (by omega), hu]
    exact hn
  · have hap := hd i m hi hm e
    rw [hu] at hap
    have := (h i hi).chg (Chg.of_grown hg) (fun b hb hs => apart_not hap hb hs)
    dsimp only at this ⊢
    by_cases h3 : i < m
    · rw [if_pos h3] at this; rw [if_pos (by omega)]; exact this
    · rw [if_neg h3] at this; rw [if_neg (by omega)]; exact this
theorem OL.turned {E : TypeId} {w : World} {lo m : Nat} {cs : List Value} {F G : Nat → List Int} (h : OL E w lo cs (fun i => if i < m then F i else G i)) (hm : cs.length ≤ m) : OL E w lo cs F := h.congr fun i hi => by rw [if_pos (by omega)]
theorem OL.turn0 {E : TypeId} {w : World} {lo : Nat} {cs : List Value} {F G : Nat → List Int} (h : OL E w lo cs G) : OL E w lo cs (fun i => if i < 0 then F i else G i) := h.congr fun i _ => by simp
/-- the row at m, as it stands -/
theorem OL.next {E : TypeId} {w : World} {lo m : Nat} {cs : List Value} {F G : Nat → List Int} (h : OL E w lo cs (fun i => if i < m then F i else G i)) (hm : m < cs.length) : OI E w lo (gv cs m) (G m) := by
  have := h m hm
  simpa using this

def totP (ps : List PairD) : Nat := (ps.map szP).sum
def mkP : Int → List PairD → List PairD
  | _, [] => []
  | k, p :: r => (upto k p.1.length, upto (k + p.1.length) p.2.length) :: mkP (k + p.1.length + p.2.length) r
theorem mkP_len : ∀ (xs : List PairD) (k : Int), (mkP k xs).length = xs.length
  | [], _ => rfl
  | x :: r, k => by simp [mkP, mkP_len r]
theorem mkP_at : ∀ (xs : List PairD) (k : Int) (i : Nat), i < xs.length → gp (mkP k xs) i = (upto (k + sumP xs i) (gp xs i).1.length, upto (k + sumP xs i + (gp xs i).1.length) (gp xs i).2.length)
  | [], _, i, h => absurd h (by simp)
  | x :: r, k, 0, _ => by simp [mkP, gp, sumP]
  | x :: r, k, i + 1, h => by
    have h' : i < r.length := by simpa using h
    have := mkP_at r (k + x.1.length + x.2.length) i h'
    simp only [mkP, gp, List.getD_cons_succ] at this ⊢
    rw [this]
    have e : (k + x.1.length + x.2.length + (sumP r i : Nat) : Int) = k + (sumP (x :: r) (i + 1) : Nat) := by
      simp only [sumP, List.take_succ_cons, List.map_cons, List.sum_cons, szP]
      omega
    rw [e]
theorem sumP_le (ps : List PairD) (k : Nat) : sumP ps k ≤ totP ps := by
  unfold sumP totP
  conv => rhs; rw [← List.take_append_drop k ps]
  rw [List.map_append, List.sum_append]
  omega
theorem sumP_len {ps : List PairD} {k : Nat} (h : ps.length = k) : sumP ps k = totP ps := by
  unfold sumP totP
  rw [List.take_of_length_le (by omega)]
theorem totP_sz (ps : List PairD) : totP ps ≤ szPs ps := by unfold totP szPs; omega

theorem OPS.hold {lo : Nat} {v : Value} {ps : List PairD} {wb w : World} (h : OPS wb lo v ps) (f : Far lo wb w) : OPS w lo v ps := by
  obtain ⟨cs, h1, h2, h3⟩ := h
  exact ⟨cs, row_hold h1 f, h2.hold f, h3⟩
theorem OPS.more {w : World} {lo lo' : Nat} {v : Value} {ps : List PairD} (h : OPS w lo v ps) (hl : lo' ≤ lo) : OPS w lo' v ps := by
  obtain ⟨cs, h1, h2, h3⟩ := h
  exact ⟨cs, row_more h1 hl, h2.more hl, h3⟩

set_option maxRecDepth 100000 in
set_option maxHeartbeats 800000 in
theorem markPairSU (A : Option Addr) (n c : Nat) (ps : List PairD) (k : Int) (w : World) (lo : Nat) (wb : World) (hlo : lo ≤ wb.heap.size) (ho : OPS wb lo (.slice A n c) ps) (hb : Far lo wb w) (hk0 : 0 ≤ k) (hk1 : k + totP ps ≤ 4611686018427387904) :
    Calls Try.prog 15 #[.slice A n c, .int .i64 k] w fun e w' => e = .returned (.int .i64 (k + totP ps)) ∧ OPS w' lo (.slice A n c) (mkP k ps) ∧ Chg (fun b => lo ≤ b ∧ b < wb.heap.size) w w' := by
  obtain ⟨cs, r0, l0, hd⟩ := ho
  have lt0 : ∀ i, i < cs.length → ∀ b, (gv cs i).ownBlock = some b → lo ≤ b ∧ b < wb.heap.size := fun i hi b hbb => (l0 i hi).lt b hbb
  have r1 := row_hold r0 hb
  have l1 := (l0.hold hb).turn0 (F := fl (mkP k ps))
  clear r0 l0
  have hlen := row_len r1
  obtain ⟨A0, c0, e0, q1, q2, hg⟩ := row_form r1
  injection e0 with e1 e2 e3
  subst e1; subst e3
  have HL := Lib.hid e2.symm
  rw [← e2] at r1 hlen hg q1
  clear e2
  have HLEN := Lib.hid hlen
  have HD := Lib.hid hd
  have HT := Lib.hid lt0
  have HR1 := Lib.hid r1
  have HL1 := Lib.hid l1
  clear hlen hd lt0 r1 l1
  have htl := sumP_le ps
  go_enter Try.func15, Try.ntmps15
  go_wp2
  go_loopw [1, 5] (fun s i wr => ∃ (j : Nat) (r : Int), j ≤ n ∧ i = .int .i64 j ∧ s = .int .i64 r ∧ 0 ≤ r ∧ r = k + sumP ps j ∧
      wr.ownsRow lo 53 2 (.slice A n c) n cs ∧ OL 2 wr lo cs (fun i => if i < j * 2 then fl (mkP k ps) i else fl ps i) ∧ Chg (fun b => lo ≤ b ∧ b < wb.heap.size) w wr) (fun _ i _ => n - (intOf i).toNat)
  case atStart => exact ⟨0, k, Nat.zero_le _, rfl, rfl, hk0, by simp [sumP], HR1.out, HL1.out, Chg.refl _ _⟩
  case round =>
    obtain ⟨j, r, hj, rfl, rfl, hr0, hr2, hrow, hol, hch⟩ := hrel
    have HR := Lib.hid hr2
    have HW := Lib.hid hrow
    have HO := Lib.hid hol
    have HC := Lib.hid hch
    clear hr2 hrow hol hch
    by_cases hlt : j < n
    · obtain ⟨g, rfl⟩ := hg (by omega)
      have m1 : j * 2 < cs.length := by rw [HLEN.out]; omega
      have m2 : j * 2 + 1 < cs.length := by rw [HLEN.out]; omega
      have o1 := HO.out.next m1
      rw [fl_even] at o1
      obtain ⟨A1, c1, e1⟩ := o1.form
      have k1 := row_cell HW.out (j := j * 2) (by omega)
      have k2 := row_cell HW.out (j := j * 2 + 1) (by omega)
      have w1 := own_ne o1 HW.out (by decide)
      rw [e1] at o1 k1 w1
      have E1 := Lib.hid e1
      clear e1
      have hsum : sumP ps (j + 1) = sumP ps j + szP (gp ps j) := sumP_succ (by rw [HL.out]; exact hlt)
      have hle := htl (j + 1)
      have hat := mkP_at ps k j (by rw [HL.out]; exact hlt)
      rw [← HR.out] at hat
      have F1 : fl (mkP k ps) (j * 2) = upto r (gp ps j).1.length := by rw [fl_even, hat]
      have F2 : fl (mkP k ps) (j * 2 + 1) = upto (r + (gp ps j).1.length) (gp ps j).2.length := by rw [fl_odd, hat]
      unfold szP at hsum
      have hkk1 : r + (gp ps j).1.length ≤ 4611686018427387904 := by have := HR.out; omega
      have hkk2 : r + (gp ps j).1.length + (gp ps j).2.length ≤ 4611686018427387904 := by have := HR.out; omega
      have hpos : 0 ≤ r + (gp ps j).1.length := by omega
      have HF1 := Lib.hid F1
      have HF2 := Lib.hid F2
      have HS := Lib.hid hsum
      have hgw : (⟨g, j * 2, none⟩ : Addr).block = g := rfl
      clear hat hsum hle F1 F2 hgw
      go_wp2_with fail
      refine (markInts _ _ _ _ _ _ _ o1 hr0 hkk1).mono ?_; rintro e w2 ⟨rfl, ho2, hg2⟩
      have hc2 := Chg.of_grown hg2
      have hrow2 := row_chg HW.out hc2 (fun b hb hs => w1 b hs hb)
      have hol2 := HO.out.turn HD.out m1 E1.out (by rw [HF1.out]; exact ho2) hg2
      have o2 := hol2.next m2
      rw [fl_odd] at o2
      obtain ⟨A2, c2, e2⟩ := o2.form
      have k2' := row_cell hrow2 (j := j * 2 + 1) (by omega)
      have w2' := own_ne o2 hrow2 (by decide)
      rw [e2] at o2 k2' w2'
      have E2 := Lib.hid e2
      have HO2 := Lib.hid hol2
      have HW2 := Lib.hid hrow2
      have HC2 := Lib.hid (HC.out.trans hc2 (fun _ h => h) (fun b hb => by
        have := HT.out (j * 2) m1 b
        rw [E1.out] at this
        exact this hb))
      clear e2 hol2 hrow2 hc2 k1 k2 w1 ho2 hg2
      go_wp2_with fail
      refine (markInts _ _ _ _ _ _ _ o2 hpos hkk2).mono ?_; rintro e w3 ⟨rfl, ho3, hg3⟩
      have hc3 := Chg.of_grown hg3
      have HW3 := Lib.hid (row_chg HW2.out hc3 (fun b hb hs => w2' b hs hb))
      have HO3 := Lib.hid (HO2.out.turn HD.out m2 E2.out (by rw [HF2.out]; exact ho3) hg3)
      have HC3 := Lib.hid (HC2.out.trans hc3 (fun _ h => h) (fun b hb => by
        have := HT.out (j * 2 + 1) m2 b
        rw [E2.out] at this
        exact this hb))
      clear hc3 ho3 hg3 k2' w2'
      go_wp2
      go_roundw
      case rel => exact ⟨j + 1, r + (gp ps j).1.length + (gp ps j).2.length, by omega, by go_num, rfl, by omega, by rw [HS.out, HR.out]; omega, HW3.out, by rw [show (j + 1) * 2 = j * 2 + 1 + 1 from by omega]; exact HO3.out, HC3.out⟩
      case measure => simp [intOf]; omega
    · obtain rfl : j = n := by omega
      go_wp2
      go_ret
      refine ⟨ret_i (by rw [HR.out, sumP_len HL.out]), ⟨cs, by rw [mkP_len, HL.out]; exact HW.out, HO.out.turned (by rw [HLEN.out]; omega), HD.out⟩, HC.out⟩

end Go.Proofs.Ytjjaolndencplaa
namespace Go.Proofs.Ytjjaolndencplaa
open Go.RowKit

/-- the part of a vertex, as a list -/
noncomputable def partL (n : List (List Int)) (ins : List Bool) (N v : Nat) : List Int := pick (fun u => clB (Both (RW n ins) v u)) (fun u => (u : Int)) N
section
variable {n : List (List Int)} {ins : List Bool} {N v : Nat}
theorem mem_part {x : Int} : x ∈ partL n ins N v ↔ ∃ u : Nat, u < N ∧ Both (RW n ins) v u ∧ x = (u : Int) := by
  unfold partL
  rw [mem_pick]
  constructor
  · rintro ⟨u, hu, h, rfl⟩; exact ⟨u, hu, clB_iff.1 h, rfl⟩
  · rintro ⟨u, hu, h, rfl⟩; exact ⟨u, hu, clB_iff.2 h, rfl⟩
theorem part_set : setB (partL n ins N v) (N : Int) = true :=
  setB_of_rises (pick_rises fun i j h _ => by omega) (fun x hx => by obtain ⟨u, hu, _, rfl⟩ := mem_part.1 hx; omega)
theorem RW.in {x y : Nat} (h : RW n ins x y) : gb ins x = true ∧ gb ins y = true := ⟨h.1, h.2.1⟩
theorem both_in {x y : Nat} (h : Both (RW n ins) x y) : gb ins x = true ∧ gb ins y = true := by
  obtain ⟨a, ha⟩ := h.1.first
  obtain ⟨b, hb⟩ := h.2.first
  exact ⟨ha.1, hb.1⟩
theorem part_none (h : ¬ Way (RW n ins) v v) : partL n ins N v = [] := by
  unfold partL
  refine List.eq_nil_iff_forall_not_mem.2 fun x hx => ?_
  obtain ⟨u, _, hb, _⟩ := mem_pick.1 hx
  exact h (clB_iff.1 hb).self.1
end
/-- what l16Parts has when it has looked at the vertices below k -/
structure PUp (n : List (List Int)) (ins : List Bool) (N k : Nat) (ps : List (List Int)) (done : List Bool) : Prop where
  len : done.length = N
  few : ps.length ≤ k
  sets : ∀ p, p ∈ ps → setB p (N : Int) = true
  parts : ∀ p, p ∈ ps → ∃ v, Both (RW n ins) v v ∧ ∀ x : Int, x ∈ p ↔ ∃ u : Nat, x = (u : Int) ∧ Both (RW n ins) v u
  all : ∀ v, v < k → Both (RW n ins) v v → ∃ p, p ∈ ps ∧ (v : Int) ∈ p
  done : ∀ u, gb done u = true → ∃ p, p ∈ ps ∧ (u : Int) ∈ p
section
variable {n : List (List Int)} {ins : List Bool} {N k : Nat} {ps : List (List Int)} {done : List Bool}
theorem PUp.start : PUp n ins N 0 [] (List.replicate N false) :=
  { len := by simp
    few := Nat.le_refl _
    sets := by intro p h; cases h
    parts := by intro p h; cases h
    all := by intro v h; omega
    done := by intro u h; rw [gb_repF] at h; cases h }
theorem PUp.pass (h : PUp n ins N k ps done) (hk : gb ins k = false ∨ gb done k = true ∨ partL n ins N k = []) (hins : ins.length = N) : PUp n ins N (k + 1) ps done :=
  { h with
    few := Nat.le_succ_of_le h.few
    all := fun v hv hb => by
      by_cases e : v = k
      · subst e
        rcases hk with k1 | k1 | k1
        · have := (both_in hb).1; rw [k1] at this; cases this
        · exact h.done v k1
        · exfalso
          have h1 := (both_in hb).1
          have hN : v < N := by
            by_cases hl : v < ins.length
            · omega
            · unfold gb at h1
              rw [List.getD_eq_getElem?_getD, List.getElem?_eq_none (by omega)] at h1
              cases h1
          have : (v : Int) ∈ partL n ins N v := mem_part.2 ⟨v, hN, hb, rfl⟩
          rw [k1] at this
          cases this
      · exact h.all v (by omega) hb }
theorem lt_ins (hins : ins.length = N) {u : Nat} (h : gb ins u = true) : u < N := by
  by_cases hl : u < ins.length
  · omega
  · unfold gb at h
    rw [List.getD_eq_getElem?_getD, List.getElem?_eq_none (by omega)] at h
    cases h
/-- the part of k is taken in; done is marked with all of it -/
theorem PUp.take (h : PUp n ins N k ps done) (hins : ins.length = N) (hne : partL n ins N k ≠ []) {done' : List Bool} (hl : done'.length = N) (hd : ∀ u, gb done' u = true → gb done u = true ∨ (u : Int) ∈ partL n ins N k) : PUp n ins N (k + 1) (ps ++ [partL n ins N k]) done' where
  len := hl
  few := by rw [List.length_append, List.length_singleton]; have := h.few; omega
  sets := fun p hp => by
    rcases List.mem_append.1 hp with e | e
    · exact h.sets p e
    · rw [List.mem_singleton.1 e]; exact part_set
  parts := fun p hp => by
    rcases List.mem_append.1 hp with e | e
    · exact h.parts p e
    · rw [List.mem_singleton.1 e]
      obtain ⟨x, hx⟩ := List.exists_mem_of_ne_nil _ hne
      obtain ⟨u, _, hb, _⟩ := mem_part.1 hx
      refine ⟨k, hb.self, fun y => ⟨fun hy => ?_, fun ⟨u, e, hb⟩ => ?_⟩⟩
      · obtain ⟨u, _, hb, e⟩ := mem_part.1 hy
        exact ⟨u, e, hb⟩
      · exact mem_part.2 ⟨u, lt_ins hins (both_in hb).2, hb, e⟩
  all := fun v hv hb => by
    by_cases e : v = k
    · subst e
      exact ⟨_, by simp, mem_part.2 ⟨v, lt_ins hins (both_in hb).1, hb, rfl⟩⟩
    · obtain ⟨p, hp, hm⟩ := h.all v (by omega) hb
      exact ⟨p, List.mem_append.2 (.inl hp), hm⟩
  done := fun u hu => by
    rcases hd u hu with k1 | k1
    · obtain ⟨p, hp, hm⟩ := h.done u k1
      exact ⟨p, List.mem_append.2 (.inl hp), hm⟩
    · exact ⟨_, by simp, k1⟩
theorem PUp.fin (h : PUp n ins N k ps done) (hins : ins.length = N) (hk : N ≤ k) : isParts (RW n ins) ps := ⟨h.parts, fun v hb => h.all v (by have := lt_ins hins (both_in hb).1; omega) hb⟩
end
/-- the vertices that are not in a set -/
def insM (N : Nat) (g : List Int) : List Bool := (List.range N).map fun (v : Nat) => !hasL g (v : Int)
theorem insM_len (N : Nat) (g : List Int) : (insM N g).length = N := by simp [insM]
theorem insM_at {N : Nat} {g : List Int} {v : Nat} (h : v < N) : gb (insM N g) v = !hasL g (v : Int) := by
  unfold gb insM
  rw [List.getD_eq_getElem?_getD, List.getElem?_map, List.getElem?_range h]
  rfl
/-- v is, or has a way to, one of G -/
def Comes (n : List (List Int)) (G : Nat → Prop) (v : Nat) : Prop := G v ∨ ∃ u, Way (fun x y => (y : Int) ∈ gl n x) v u ∧ G u
theorem list_brk {n : List (List Int)} {N : Nat} {G : Nat → Prop} {ms : List Bool} (hl : ms.length = N) (h : ∀ v, v < N → (gb ms v = true ↔ Comes n G v)) : listM ms = pick (fun v => clB (Comes n G v)) (fun v => (v : Int)) N := by
  refine rises_ext (listM_rises ms) (pick_rises fun i j h _ => by omega) (fun x => ?_)
  rw [mem_listM, mem_pick]
  constructor
  · rintro ⟨v, hv, hm, rfl⟩
    exact ⟨v, by omega, clB_iff.2 ((h v (by omega)).1 hm), rfl⟩
  · rintro ⟨v, hv, hm, rfl⟩
    exact ⟨v, by omega, (h v hv).2 (clB_iff.1 hm), rfl⟩
end Go.Proofs.Ytjjaolndencplaa
namespace Go.Proofs.Ytjjaolndencplaa
open Go.RowKit

set_option maxRecDepth 100000 in
set_option maxHeartbeats 3200000 in
theorem specAfter (A0 A1 C : Option Addr) (n0 c0 n1 c1 d N v : Nat) (n : List (List Int)) (ins : List Bool) (w : World) (B : Nat) (hB : B ≤ w.heap.size) (hx : RII w A1 n1 c1 n) (hi : RB w C N d ins) (hn1 : n1 = N) (hN : N ≤ 256) (hv : v < N) (hiv : gb ins v = true)
    (hE : ∀ x, x < N → (gl n x).length ≤ 16 ∧ ∀ j, j < (gl n x).length → ∃ m : Nat, gi (gl n x) j = (m : Int) ∧ m < N) :
    Calls Try.prog 73 #[.agg #[.slice A0 n0 c0, .slice A1 n1 c1], .slice C N d, .int .i64 (v : Int)] w fun e w' => ∃ (b : Nat) (out : List Bool), e = .returned (.slice (some ⟨b, 0, none⟩) N N) ∧ OB 4 w' B (.slice (some ⟨b, 0, none⟩) N N) out ∧ (out.length = N ∧ ∀ u, gb out u = true ↔ Way (RW n ins) v u) ∧ Below B w w' := by
  subst hn1
  have a1 := hx.cap; have a2 := hx.top; have i1 := hi.cap; have i2 := hi.top
  have bx := Box.new w 30 #[.slice A0 n0 c0, .slice A1 n1 c1]
  have hba : Below w.heap.size w (w.alloc (.cells #[.slice A0 n0 c0, .slice A1 n1 c1] 30)) := below_alloc (Nat.le_refl _) (Below.refl _ _)
  have HZ : Hid ((w.alloc (.cells #[.slice A0 n0 c0, .slice A1 n1 c1] 30)).heap.size = w.heap.size + 1) := Lib.hid (by simp)
  have H0 := Lib.hid (AO.start (n := n) (ins := ins) hv hiv)
  have HE := Lib.hid hE
  clear hE hiv
  go_enter Try.func73, Try.ntmps73
  go_wp2_with (refine wpList_makeB rfl (.tmp 13) rfl _ n1 rfl (by omega) ?_; intro w1 hown hb1; rw [HZ.out] at hown ⊢; have bx1 := bx.below hb1 bx.lt; replace hb1 := below_then hb1 hba.size hba; replace hown := hown.more (lo' := w.heap.size) (by omega); clear hba bx)
  have hs1 := hb1.size
  have hlt1 := (hown.lt _ rfl).2
  have hown2 : OB 4 (w1.alloc (.cells #[.int .i64 (v : Int)] 2)) w.heap.size (.slice (some ⟨w.heap.size + 1, 0, none⟩) n1 n1) (List.replicate n1 false) := hown.below (below_alloc (Nat.le_refl _) (Below.refl _ _))
  have ho2 : OQ (w1.alloc (.cells #[.int .i64 (v : Int)] 2)) w1.heap.size (.slice (some ⟨w1.heap.size, 0, none⟩) 1 1) [(v : Int)] := OQ.of (OI.lit1 (Nat.le_refl _))
  have bx2 := bx1.alloc (.cells #[.int .i64 (v : Int)] 2)
  have hw2 : Below w.heap.size w (w1.alloc (.cells #[.int .i64 (v : Int)] 2)) := below_alloc (Nat.le_refl _) hb1
  clear hown hb1 bx1
  go_wp2
  go_loopw [8] (fun t wr => ∃ (T : List Int) (out : List Bool), OQ wr w1.heap.size t T ∧ OB 4 wr w.heap.size (.slice (some ⟨w.heap.size + 1, 0, none⟩) n1 n1) out ∧ Hid (AO n ins n1 v out T) ∧ Box wr w.heap.size 30 #[.slice A0 n0 c0, .slice A1 n1 c1] ∧ Below w.heap.size w wr ∧ w1.heap.size ≤ wr.heap.size) (fun t wr => 2 * mB wr (w.heap.size + 1) + (match t with | .slice _ n _ => n | _ => 0))
  case atStart => exact ⟨_, _, ho2, hown2, H0, bx2, hw2, by simp⟩
  case round =>
    clear ho2 hown2 bx2 hw2
    obtain ⟨T, out, ho, hb, HI, bX, hbr, hsz⟩ := hrel
    have hM := Lib.hid (mB_row hb)
    cases T with
    | nil =>
      obtain ⟨At, ct, rfl, h1, h2⟩ := ho.form
      have hfin := Lib.hid (HI.out.fin)
      go_wp2
      go_ret
      exact ⟨_, out, rfl, hb.more hB, ⟨HI.out.len, hfin.out⟩, hbr.mono hB⟩
    | cons x0 r =>
      obtain ⟨x, rfl, hxn, hxi⟩ := HI.out.rng x0 List.mem_cons_self
      obtain ⟨g, off, c, rfl, hc1, hc2, hcell, hq0, hq1⟩ := ho.pop
      have HP := Lib.hid HI.out.pop
      have HXI := Lib.hid hxi
      obtain ⟨be, oe, A', n', c', hA', hce, hre⟩ := hx.at_ hxn
      subst hA'
      have ra1 := hre.cap; have ra2 := hre.top
      have HR := Lib.hid hre.len
      have HB := Lib.hid (HE.out x hxn)
      have hce0 := keeps_below hbr _ _ hce
      have q1 : wr.cell? ⟨w.heap.size, 1, none⟩ = some (.slice (some ⟨be, oe, none⟩) n1 c1) := bX.cell 1
      have q0 : wr.cell? ⟨w.heap.size, 0, none⟩ = some (.slice A0 n0 c0) := bX.cell 0
      clear hxi
      go_upto_region 6 with (fail)
      go_cut [8, 9, 10] (fun u8 u9 u10 wx => Hid (OQ wr w1.heap.size u8 r ∧ u9 = .int .i64 (x : Int) ∧ u10 = .int .i64 0 ∧ wx = wr))
      case first =>
        by_cases hc : c = 0
        · subst hc
          have hr0 : r = [] := List.eq_nil_of_length_eq_zero (by omega)
          subst hr0
          have hq := hq0 rfl
          go_wp2_with fail; go_meet
          exact Lib.hid ⟨hq, rfl, rfl, rfl⟩
        · have hq := hq1 hc
          have hc' : ¬ c + 1 = 1 := by omega
          go_wp2_with fail; go_meet
          exact Lib.hid ⟨hq, rfl, rfl, rfl⟩
      case rest =>
        obtain ⟨hq, hu9, hu10, hwx⟩ := hcut.out
        rw [hu9, hu10, hwx]
        clear hcut hu9 hu10 hwx
        obtain ⟨A8, c8, rfl, hA8, hA9⟩ := hq.form
        clear hq0 hq1 ho
        go_wp2
        go_loopw [8, 10] (fun t i wi => ∃ (T1 : List Int) (out1 : List Bool) (j : Nat), j ≤ n' ∧ i = .int .i64 (j : Int) ∧ OQ wi w1.heap.size t T1 ∧ OB 4 wi w.heap.size (.slice (some ⟨w.heap.size + 1, 0, none⟩) n1 n1) out1 ∧ Hid (AI2 n ins n1 v x j out1 T1 ∧ 2 * cntF out1 + T1.length ≤ 2 * cntF out + r.length) ∧ Box wi w.heap.size 30 #[.slice A0 n0 c0, .slice (some ⟨be, oe, none⟩) n1 c1] ∧ Below w.heap.size w wi ∧ w1.heap.size ≤ wi.heap.size) (fun _ i _ => n' - (intOf i).toNat)
        case atStart => exact ⟨_, out, 0, Nat.zero_le _, rfl, hq, hb, Lib.hid ⟨HP.out, Nat.le_refl _⟩, bX, hbr, hsz⟩
        case round =>
          clear hq hb hcell bX q0 q1 hce0
          obtain ⟨T1, out1, j, hj, rfl, ho1, hb1, HI1, bX1, hbi, hsi⟩ := hrel
          obtain ⟨A1', c1', rfl, hA1, hA2⟩ := ho1.form
          have hM1 := Lib.hid (mB_row hb1)
          have hce1 := keeps_below hbi _ _ hce
          have q1 : wr.cell? ⟨w.heap.size, 1, none⟩ = some (.slice (some ⟨be, oe, none⟩) n1 c1) := bX1.cell 1
          have q0 : wr.cell? ⟨w.heap.size, 0, none⟩ = some (.slice A0 n0 c0) := bX1.cell 0
          by_cases hlt : j < n'
          · obtain ⟨bj, oj, hA2', hcj⟩ := (hre.keep (keeps_below hbi)).at_ hlt
            subst hA2'
            obtain ⟨u, hu, hun⟩ := HB.out.2 j (by rw [HR.out]; exact hlt)
            have HU := Lib.hid hu
            have HJ : Hid (j < (gl n x).length) := Lib.hid (by rw [HR.out]; exact hlt)
            rw [hu] at hcj
            obtain ⟨bi, oi, hC, hci⟩ := (hi.keep (keeps_below hbi)).at_ hun
            subst hC
            have HLn := Lib.hid HI1.out.1.len
            have hcu := hb1.at_ (i := u) (by rw [HLn.out]; exact hun)
            have hfz := hb1.hot (i := u) (by rw [HLn.out])
            have hll : T1.length ≤ 4194304 := by have h9 := HI1.out.1.cnt; omega
            clear hu
            cases hin : gb ins u with
            | false =>
              have HIN := Lib.hid hin
              rw [hin] at hci
              clear hin
              go_wp2
              go_roundw
              case rel => exact ⟨T1, out1, j + 1, by omega, by go_num, ho1, hb1, Lib.hid ⟨HI1.out.1.skip HJ.out HU.out (fun h => by rw [HIN.out] at h; cases h), HI1.out.2⟩, bX1, hbi, hsi⟩
              case measure => simp [intOf]; omega
            | true =>
              have HIN := Lib.hid hin
              rw [hin] at hci
              clear hin
              cases hou : gb out1 u with
              | true =>
                have HOU := Lib.hid hou
                rw [hou] at hcu
                clear hou
                go_wp2
                go_roundw
                case rel => exact ⟨T1, out1, j + 1, by omega, by go_num, ho1, hb1, Lib.hid ⟨HI1.out.1.skip HJ.out HU.out (fun _ => HOU.out), HI1.out.2⟩, bX1, hbi, hsi⟩
                case measure => simp [intOf]; omega
              | false =>
                have HOU := Lib.hid hou
                rw [hou] at hcu
                clear hou
                have hoT := ho1.far (p := ⟨w.heap.size + 1, u, none⟩) (by show w.heap.size + 1 < w1.heap.size; exact hlt1) (.bool true)
                have hbS := hb1.set_ (i := u) (by rw [HLn.out]) true
                have bXS := bX1.far (p := ⟨w.heap.size + 1, u, none⟩) (show w.heap.size ≠ w.heap.size + 1 by omega) (.bool true)
                have hwS := below_set (p := ⟨w.heap.size + 1, u, none⟩) (u := .bool true) (by show w.heap.size ≤ w.heap.size + 1; omega) hbi
                have HPt := Lib.hid (HI1.out.1.put HJ.out HU.out hun HXI.out HIN.out HOU.out)
                have HC := Lib.hid (cntF_set (ms := out1) (i := u) (by rw [HLn.out]; exact hun) HOU.out)
                go_wp2_with (at_builtin; refine wpList_pushQ rfl (.tmp 57) (.tmp 59) rfl (wr.setCell ⟨w.heap.size + 1, u, none⟩ (.bool true)) wr.heap.size (by simp) w1.heap.size (.slice A1' T1.length c1') T1 rfl hoT (u : Int) rfl hll hsi ?_; intro t2 w3 ho3 hb3)
                have hcg : Chg (fun z => w1.heap.size ≤ z) (wr.setCell ⟨w.heap.size + 1, u, none⟩ (.bool true)) w3 := ⟨hb3.os, hb3.tape, hb3.output, hb3.size, fun k _ hk => hb3.block k (by omega)⟩
                have hbE := row_chg hbS hcg (fun z hz e => by have h3 : w.heap.size + 1 = z := by simpa [Value.ownBlock] using hz
                                                              omega)
                have bXE : Box w3 w.heap.size 30 #[.slice A0 n0 c0, .slice (some ⟨be, oe, none⟩) n1 c1] := (hb3.block _ (by omega)).trans bXS
                have hsE : w1.heap.size ≤ w3.heap.size := Nat.le_trans hsi (Nat.le_trans (by simp) hb3.size)
                have hwE := hwS.trans (hb3.mono (by omega))
                go_roundw
                case rel => exact ⟨T1 ++ [(u : Int)], out1.set u true, j + 1, by omega, by go_num, ho3, hbE, Lib.hid ⟨HPt.out, by have h8 := HI1.out.2; have h9 := HC.out; rw [List.length_append, List.length_singleton]; omega⟩, bXE, hwE, hsE⟩
                case measure => simp [intOf]; omega
          · obtain rfl : j = n' := by omega
            go_wp2
            refine ⟨⟨T1, out1, ho1, hb1, Lib.hid (HI1.out.1.fin (by rw [HR.out]; exact Nat.le_refl _)), bX1, hbi, hsi⟩, ?_⟩
            have h8 := HI1.out.2
            have h9 := hM1.out
            have h10 := hM.out
            rw [h9, h10]
            show 2 * cntF out1 + T1.length < 2 * cntF out + (r.length + 1)
            omega
end Go.Proofs.Ytjjaolndencplaa
namespace Go.Proofs.Ytjjaolndencplaa
open Go.RowKit

/-- a row's block is no box of another type -/
theorem row_nbox {E t : TypeId} {w : World} {lo size n b : Nat} {v : Value} {cs : List Value} {xs : Array Value} (h : w.ownsRow lo E size v n cs) (hb : Box w b t xs) (hne : E ≠ t) : v.ownBlock ≠ some b := by
  intro hv
  rcases h.2 with ⟨rfl, _⟩ | ⟨g, cap, cur, rfl, _, h3, _⟩
  · simp [Value.ownBlock] at hv
  · simp [Value.ownBlock] at hv
    subst hv
    unfold Box at hb
    rw [hb] at h3
    injection h3 with h3
    injection h3 with _ e
    exact hne e.symm
noncomputable def partU (n : List (List Int)) (ins : List Bool) (v k : Nat) : List Int := pick (fun u => clB (Both (RW n ins) v u)) (fun u => (u : Int)) k
set_option maxRecDepth 100000 in
set_option maxHeartbeats 3200000 in
theorem specPart (A0 A1 C : Option Addr) (n0 c0 n1 c1 d N v : Nat) (n : List (List Int)) (ins : List Bool) (w : World) (B : Nat) (hB : B ≤ w.heap.size) (hx : RII w A1 n1 c1 n) (hi : RB w C N d ins) (hn1 : n1 = N) (hN : N ≤ 256) (hv : v < N) (hiv : gb ins v = true)
    (hE : ∀ x, x < N → (gl n x).length ≤ 16 ∧ ∀ j, j < (gl n x).length → ∃ m : Nat, gi (gl n x) j = (m : Int) ∧ m < N) :
    Calls Try.prog 63 #[.agg #[.slice A0 n0 c0, .slice A1 n1 c1], .slice C N d, .int .i64 (v : Int)] w fun e w' => ∃ vv, e = .returned vv ∧ OI 2 w' B vv (partL n ins N v) ∧ Below B w w' := by
  have hi2 := hi.cap; have hi3 := hi.top
  have bx := Box.new w 30 #[.slice A0 n0 c0, .slice A1 n1 c1]
  have hba : Below w.heap.size w (w.alloc (.cells #[.slice A0 n0 c0, .slice A1 n1 c1] 30)) := below_alloc (Nat.le_refl _) (Below.refl _ _)
  have HE := Lib.hid hE
  have HIV := Lib.hid hiv
  have HN1 := Lib.hid hn1
  clear hE hiv hn1
  have hem : OI 2 ((w.alloc (.cells #[.slice A0 n0 c0, .slice A1 n1 c1] 30)).alloc (.cells #[] 2)) w.heap.size (.slice (some ⟨w.heap.size + 1, 0, none⟩) 0 0) [] := by
    have h := OI.empty (E := 2) (w := w.alloc (.cells #[.slice A0 n0 c0, .slice A1 n1 c1] 30)) (B := w.heap.size) (by simp)
    simpa using h
  have bxe := bx.alloc (.cells #[] 2)
  have hwE : Below w.heap.size w ((w.alloc (.cells #[.slice A0 n0 c0, .slice A1 n1 c1] 30)).alloc (.cells #[] 2)) := below_alloc (Nat.le_refl _) hba
  have q0 := bxe.d0; have q1 := bxe.d1
  clear bx hba
  go_enter Try.func63, Try.ntmps63
  go_wp2_with fail
  refine (specAfter _ _ _ _ _ _ _ _ _ _ n ins _ _ (Nat.le_refl _) (hx.keep (keeps_below hwE)) (hi.keep (keeps_below hwE)) HN1.out hN hv HIV.out HE.out).mono ?_; rintro e w1 ⟨b, out, rfl, hob, hout, hb1⟩
  have bx1 := bxe.below hb1 bxe.lt
  have hw1 := below_then hb1 hwE.size hwE
  have ho1 := hem.below hb1
  have hob1 := hob.more (lo' := w.heap.size) hwE.size
  have HO := Lib.hid hout
  have hcv := hob1.at_ (i := v) (by rw [HO.out.1]; exact hv)
  clear q0 q1 hb1 hob hout hem bxe
  cases hvv : gb out v with
  | false =>
    rw [hvv] at hcv
    have E : Hid (partL n ins N v = []) := Lib.hid (part_none (fun h => by rw [(HO.out.2 v).2 h] at hvv; cases hvv))
    clear hvv
    go_wp2
    go_ret
    exact ⟨_, rfl, by rw [E.out]; exact ho1.more hB, hw1.mono hB⟩
  | true =>
    rw [hvv] at hcv
    clear hvv
    go_wp2
    go_loopw [7, 9] (fun t i wr => ∃ k : Nat, k ≤ N ∧ i = .int .i64 (k : Int) ∧ OI 2 wr w.heap.size t (partU n ins v k) ∧ OB 4 wr w.heap.size (.slice (some ⟨b, 0, none⟩) N N) out ∧ Box wr w.heap.size 30 #[.slice A0 n0 c0, .slice A1 n1 c1] ∧ Below w.heap.size w wr) (fun _ i _ => N - (intOf i).toNat)
    case atStart => exact ⟨0, Nat.zero_le _, rfl, ho1, hob1, bx1, hw1⟩
    case round =>
      clear ho1 hob1 bx1 hw1 hcv
      obtain ⟨k, hk, rfl, ho, hob, bX, hbr⟩ := hrel
      obtain ⟨At, ct, rfl⟩ := ho.form
      have q0 := bX.d0; have q1 := bX.d1
      have hll : (partU n ins v k).length ≤ 4194304 := by have : (partU n ins v k).length ≤ k := pick_len _ _ _; omega
      by_cases hlt : k < N
      · have hck := hob.at_ (i := k) (by rw [HO.out.1]; exact hlt)
        have hcv := hob.at_ (i := v) (by rw [HO.out.1]; exact hv)
        cases hkk : gb out k with
        | false =>
          rw [hkk] at hck
          have HU : Hid (partU n ins v (k + 1) = partU n ins v k) := Lib.hid (by unfold partU; exact pick_no (clB_no fun h => by rw [(HO.out.2 k).2 h.1] at hkk; cases hkk))
          clear hkk
          go_wp2
          go_roundw
          case rel => exact ⟨k + 1, by omega, by go_num, by rw [HU.out]; exact ho, hob, bX, hbr⟩
          case measure => simp [intOf]; omega
        | true =>
          rw [hkk] at hck
          have HW := Lib.hid ((HO.out.2 k).1 hkk)
          have HIK : Hid (gb ins k = true) := Lib.hid (by obtain ⟨y, hy⟩ := HW.out.last; exact hy.2.1)
          clear hkk
          go_wp2_with fail
          refine (specAfter _ _ _ _ _ _ _ _ _ _ n ins _ _ (Nat.le_refl _) (hx.keep (keeps_below hbr)) (hi.keep (keeps_below hbr)) HN1.out hN hlt HIK.out HE.out).mono ?_; rintro e w2 ⟨b2, out2, rfl, hob2, hout2, hb2⟩
          have bX2 := bX.below hb2 bX.lt
          have hw2 := below_then hb2 hbr.size hbr
          have ho2 := ho.below hb2
          have hobk := hob.below hb2
          have hsz2 := hw2.size
          have hc2 := hob2.at_ (i := v) (by rw [hout2.1]; exact hv)
          have HO2 := Lib.hid hout2
          clear q0 q1 hb2 hck hcv hout2
          cases hvk : gb out2 v with
          | false =>
            rw [hvk] at hc2
            have HU : Hid (partU n ins v (k + 1) = partU n ins v k) := Lib.hid (by unfold partU; exact pick_no (clB_no fun h => by rw [(HO2.out.2 v).2 h.2] at hvk; cases hvk))
            clear hvk
            go_wp2
            go_roundw
            case rel => exact ⟨k + 1, by omega, by go_num, by rw [HU.out]; exact ho2, hobk, bX2, hw2⟩
            case measure => simp [intOf]; omega
          | true =>
            rw [hvk] at hc2
            have HU : Hid (partU n ins v (k + 1) = partU n ins v k ++ [(k : Int)]) := Lib.hid (by unfold partU; exact pick_yes (clB_yes ⟨HW.out, (HO2.out.2 v).1 hvk⟩))
            clear hvk
            go_wp2_with (at_builtin; refine wpList_pushI rfl (.tmp 40) (.tmp 42) rfl w2 w.heap.size (.slice At (partU n ins v k).length ct) (partU n ins v k) rfl ho2 (k : Int) rfl hll hsz2 ?_; intro v3 w3 ho3 hb3 hc3 hat3)
            have hob3 := row_chg hobk hc3 (fun z hz e => own_ne ho2 hobk (by decide) z e hz)
            have bX3 : Box w3 w.heap.size 30 #[.slice A0 n0 c0, .slice A1 n1 c1] := (hc3.block _ bX2.lt (fun e => row_nbox ho2 bX2 (by decide) e)).trans bX2
            go_roundw
            case rel => exact ⟨k + 1, by omega, by go_num, by rw [HU.out]; exact ho3, hob3, bX3, hw2.trans hb3⟩
            case measure => simp [intOf]; omega
      · obtain rfl : k = N := by omega
        go_wp2
        go_ret
        exact ⟨_, rfl, ho.more hB, hbr.mono hB⟩
set_option maxRecDepth 100000 in
set_option maxHeartbeats 1600000 in
theorem specInside (C : Option Addr) (N m d : Nat) (g : List Int) (w : World) (B : Nat) (hB : B ≤ w.heap.size) (hg : RI w C m d g) (hN : N ≤ 256) :
    Calls Try.prog 45 #[.int .i64 (N : Int), .slice C m d] w fun e w' => ∃ b, e = .returned (.slice (some ⟨b, 0, none⟩) N N) ∧ OB 4 w' B (.slice (some ⟨b, 0, none⟩) N N) (insM N g) ∧ Below B w w' := by
  have hba := Below.refl w.heap.size w
  have hsz : w.heap.size = w.heap.size := rfl
  have HZ := Lib.hid hsz; clear hsz
  go_enter Try.func45, Try.ntmps45
  go_wp2_with (refine wpList_makeB rfl (.tmp 7) rfl _ N rfl (by omega) ?_; intro w1 hown hb1; rw [HZ.out] at hown ⊢; replace hb1 := below_then hb1 hba.size hba; replace hown := hown.more (lo' := w.heap.size) (by omega); clear hba)
  go_loopw [6] (fun i wr => ∃ (k : Nat) (ls : List Bool), k ≤ N ∧ i = .int .i64 (k : Int) ∧ OB 4 wr w.heap.size (.slice (some ⟨w.heap.size, 0, none⟩) N N) ls ∧ Hid (ls.length = N ∧ ∀ u, u < k → gb ls u = !hasL g (u : Int)) ∧ Below w.heap.size w wr) (fun i _ => N - (intOf i).toNat)
  case atStart => exact ⟨0, _, Nat.zero_le _, rfl, hown, Lib.hid ⟨by simp, fun u hu => absurd hu (by omega)⟩, hb1⟩
  case round =>
    clear hown hb1
    obtain ⟨k, ls, hk, rfl, ho, HI, hbr⟩ := hrel
    by_cases hlt : k < N
    · have hc := ho.at_ (i := k) (by rw [HI.out.1]; exact hlt)
      have hf := ho.hot (i := k) (by rw [HI.out.1])
      go_wp2_with (go_at_call 61; refine (l16Has _ _ _ _ _ _ (hg.keep (keeps_below hbr))).mono ?_; rintro e w2 ⟨rfl, q2, rfl⟩)
      go_roundw
      case rel =>
        refine ⟨k + 1, ls.set k (!hasL g (k : Int)), by omega, by go_num, by first | exact (OB.drewN ho q2).set_ (by rw [HI.out.1]) _ | exact ho.set_ (by rw [HI.out.1]) _, Lib.hid ⟨by rw [List.length_set]; exact HI.out.1, fun u hu => ?_⟩, below_set (p := ⟨w.heap.size, k, none⟩) (Nat.le_refl _) (below_drewN hbr q2)⟩
        by_cases e : k = u
        · subst e
          unfold gb
          rw [List.getD_eq_getElem?_getD, List.getElem?_set_self (by rw [HI.out.1]; exact hlt)]
          rfl
        · have h9 := HI.out.2 u (by omega)
          unfold gb at h9 ⊢
          rw [List.getD_eq_getElem?_getD, List.getElem?_set_ne e, ← List.getD_eq_getElem?_getD]
          exact h9
      case measure => simp [intOf]; omega
    · obtain rfl : k = N := by omega
      have E : Hid (ls = insM k g) := Lib.hid (gb_ext (by rw [HI.out.1, insM_len]) fun j hj => by rw [HI.out.2 j (by have := HI.out.1; omega), insM_at (by have := HI.out.1; omega)])
      go_wp2
      go_ret
      exact ⟨_, rfl, by rw [← E.out]; exact ho.more hB, hbr.mono hB⟩
end Go.Proofs.Ytjjaolndencplaa
namespace Go.Proofs.Ytjjaolndencplaa
open Go.RowKit

/-- a slice of bytes that reads as a list -/
def RY (w : World) (A : Option Addr) (n c : Nat) (xs : List Int) : Prop :=
  xs.length = n ∧ (n ≤ c ∧ c ≤ 9223372036854775807) ∧ (∀ x ∈ xs, 0 ≤ x ∧ x ≤ 255) ∧ ∀ i, i < n → ∃ b off, A = some ⟨b, off, none⟩ ∧ w.cell? ⟨b, off + i, none⟩ = some (.int .u8 (gi xs i))
section
variable {w w' : World} {A : Option Addr} {n c : Nat} {xs : List Int}
theorem RY.cap (h : RY w A n c xs) : n ≤ c := h.2.1.1
theorem RY.top (h : RY w A n c xs) : c ≤ 9223372036854775807 := h.2.1.2
theorem RY.at_ (h : RY w A n c xs) {i : Nat} (hi : i < n) : ∃ b off, A = some ⟨b, off, none⟩ ∧ w.cell? ⟨b, off + i, none⟩ = some (.int .u8 (gi xs i)) ∧ 0 ≤ gi xs i ∧ gi xs i ≤ 255 := by
  obtain ⟨b, off, e, hc⟩ := h.2.2.2 i hi
  exact ⟨b, off, e, hc, h.2.2.1 _ (gi_mem (by rw [h.1]; exact hi))⟩
theorem RY.keep (h : RY w A n c xs) (k : Keeps w w') : RY w' A n c xs :=
  ⟨h.1, h.2.1, h.2.2.1, fun i hi => by obtain ⟨b, off, e, hc⟩ := h.2.2.2 i hi; exact ⟨b, off, e, k _ _ hc⟩⟩
theorem RY.of_nil : RY w none 0 0 [] := ⟨rfl, ⟨by omega, by omega⟩, by simp, fun i hi => absurd hi (by omega)⟩
theorem RY.of_cells {x : Addr} {len cap : Nat} {zs : List Int} (hl : len ≤ cap) (hm : cap ≤ maxLen) (hz : zs.length = cap)
    (hcell : ∀ i, i < zs.length → w.cell? (x.add i) = some (.int .u8 (zs.getD i 0))) (hr : ∀ z ∈ zs, 0 ≤ z ∧ z ≤ 255) : RY w (some x) len cap (zs.take len) := by
  refine ⟨by rw [List.length_take]; omega, ⟨hl, by unfold maxLen at hm; omega⟩, fun z hz => hr z (List.mem_of_mem_take hz), fun i hi => ?_⟩
  obtain ⟨b, off, spot⟩ := x
  have h0 := hcell 0 (by omega)
  have hs : spot = none := by simpa [Addr.add] using World.cell?_spot h0
  subst hs
  refine ⟨b, off, rfl, ?_⟩
  have hc := hcell i (by omega)
  rw [gi_take hi]
  rw [show (⟨b, off, none⟩ : Addr).add i = ⟨b, off + i, none⟩ from by unfold Addr.add; split <;> simp_all] at hc
  exact hc
end

end Go.Proofs.Ytjjaolndencplaa
namespace Go.Proofs.Ytjjaolndencplaa
open Go.RowKit

end Go.Proofs.Ytjjaolndencplaa
namespace Go.Proofs.Ytjjaolndencplaa
section
variable {P : Program} {Q : Exit → Act → World → Prop} {md : Region.Mode} {S : World → Prop} {fuel : Nat} {listed : Array Bool} {a : Act} {w : World}
end
end Go.Proofs.Ytjjaolndencplaa
namespace Go.Proofs.Ytjjaolndencplaa
open Go.RowKit

theorem OB.chg {E : TypeId} {S : Nat → Prop} {w w' : World} {lo : Nat} {v : Value} {xs : List Bool} (h : OB E w lo v xs) (hc : Chg S w w') (hS : ∀ b, v.ownBlock = some b → ¬ S b) : OB E w' lo v xs := row_chg h hc hS
end Go.Proofs.Ytjjaolndencplaa
namespace Go.Proofs.Ytjjaolndencplaa
open Go.RowKit

end Go.Proofs.Ytjjaolndencplaa
namespace Go.Proofs.Ytjjaolndencplaa
open Go.RowKit

end Go.Proofs.Ytjjaolndencplaa
