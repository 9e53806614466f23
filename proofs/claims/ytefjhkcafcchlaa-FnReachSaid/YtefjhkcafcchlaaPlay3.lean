/- Plays against dice: w6Other, w6Meets, w6Full, w6Plan, w6Against. A play against dice: w6Against. -/
import Derived.Test.YtefjhkcafcchlaaPlay2
namespace Go.Proofs.Ytefjhkcafcchlaa
open Go.RowKit

def otherL (m : Nat) (s : List Int) : List Int := pick (fun v => !hasL s (v : Int)) (fun v => (v : Int)) m
theorem mem_other {m : Nat} {s : List Int} {x : Int} : x ∈ otherL m s ↔ ∃ v : Nat, v < m ∧ hasL s (v : Int) = false ∧ (v : Int) = x := by
  unfold otherL
  rw [mem_pick]
  simp
theorem other_rises (m : Nat) (s : List Int) : rises (otherL m s) := pick_rises fun i j h _ => by omega
theorem other_set (m : Nat) (s : List Int) : setB (otherL m s) (m : Int) = true := setB_of_rises (other_rises m s) fun x hx => by
  obtain ⟨v, hv, _, e⟩ := mem_other.1 hx
  omega

set_option maxRecDepth 100000 in
set_option maxHeartbeats 400000 in
theorem w6Other (m : Nat) (C : Option Addr) (k d : Nat) (s : List Int) (w : World) (B : Nat) (hB : B ≤ w.heap.size) (hs : RI w C k d s) (hm : m ≤ 256) :
    Calls Try.prog 24 #[.int .i64 (m : Int), .slice C k d] w fun e w' => ∃ v, e = .returned v ∧ OI 2 w' B v (otherL m s) ∧ Below B w w' := by
  have hem := OI.empty (E := 2) (w := w) (B := w.heap.size) (Nat.le_refl _)
  have hba : Below w.heap.size w (w.alloc (.cells #[] 2)) := below_alloc (Nat.le_refl _) (Below.refl _ _)
  go_enter Try.func24, Try.ntmps24
  go_wp2
  go_loopw [5, 6] (fun u i wr => ∃ j : Nat, j ≤ m ∧ i = .int .i64 j ∧ OI 2 wr w.heap.size u (otherL j s) ∧ Below w.heap.size w wr) (fun _ i _ => m - (intOf i).toNat)
  case atStart => exact ⟨0, Nat.zero_le _, rfl, hem, hba⟩
  case round =>
    clear hem hba
    obtain ⟨j, hj, rfl, ho, hb⟩ := hrel
    by_cases hlt : j < m
    · have hlen : (otherL j s).length ≤ 4194304 := by have := pick_len (fun v => !hasL s (v : Int)) (fun v => (v : Int)) j; unfold otherL; omega
      cases hh : hasL s (j : Int) with
      | true =>
        have HH := Lib.hid hh
        have X := Lib.hid (show otherL (j + 1) s = otherL j s from pick_no (by rw [hh]; rfl))
        clear hh
        go_wp2_with fail
        refine (w6Has _ _ _ s _ _ (hs.keep (keeps_below hb))).mono ?_; rintro e w1 ⟨rfl, q1⟩
        rw [HH.out]
        have hb1 := below_qt q1 (Below.refl wr.heap.size wr)
        go_wp2
        go_roundw
        case rel => exact ⟨j + 1, by omega, by go_num, by rw [X.out]; exact ho.below hb1, below_then hb1 hb.size hb⟩
        case measure => simp [intOf]; omega
      | false =>
        have HH := Lib.hid hh
        have X := Lib.hid (show otherL (j + 1) s = otherL j s ++ [(j : Int)] from pick_yes (by rw [hh]; rfl))
        clear hh
        go_wp2_with fail
        refine (w6Has _ _ _ s _ _ (hs.keep (keeps_below hb))).mono ?_; rintro e w1 ⟨rfl, q1⟩
        rw [HH.out]
        have hb1 := below_qt q1 (Below.refl wr.heap.size wr)
        have ho1 := ho.below hb1
        have hw1 := below_then hb1 hb.size hb
        have hs1 := hw1.size
        clear ho
        go_wp2_with (at_builtin; refine wpList_pushI rfl (.tmp 17) (.tmp 19) rfl _ w.heap.size u5 (otherL j s) (by rfl) ho1 _ (by rfl) hlen hs1 ?_; intro v2 w2 ho2 hb2 hc2 hat2)
        go_wp2
        go_roundw
        case rel => exact ⟨j + 1, by omega, by go_num, by rw [X.out]; exact ho2, hw1.trans hb2⟩
        case measure => simp [intOf]; omega
    · obtain rfl : j = m := by omega
      go_wp2
      go_ret
      exact ⟨_, rfl, ho.more hB, hb.mono hB⟩

theorem meetC_of {a b : List Int} {k : Nat} (hk : k < a.length) (h : hasL b (gi a k) = true) : meetB a b = true := decide_eq_true ⟨gi a k, gi_mem hk, of_decide_eq_true h⟩
theorem meetC_no {a b : List Int} {n : Nat} (hl : a.length = n) (h : ∀ j, j < n → hasL b (gi a j) = false) : meetB a b = false := by
  refine decide_eq_false fun ⟨x, h1, h2⟩ => ?_
  obtain ⟨i, hi, rfl⟩ := mem_gi h1
  exact of_decide_eq_false (h i (by omega)) h2
set_option maxRecDepth 100000 in
theorem w6Meets (A C : Option Addr) (n c m d : Nat) (a b : List Int) (w : World) (ha : RI w A n c a) (hb : RI w C m d b) :
    Calls Try.prog 31 #[.slice A n c, .slice C m d] w fun e w' => e = .returned (.bool (meetB a b)) ∧ Qt w w' := by
  have b1 := ha.cap; have b2 := ha.top
  go_enter Try.func31, Try.ntmps31
  go_wp2
  go_loopw [5] (fun i wr => ∃ k : Nat, k ≤ n ∧ i = .int .i64 k ∧ (∀ j, j < k → hasL b (gi a j) = false) ∧ ∃ q, wr = w.drewN q) (fun i _ => n - (intOf i).toNat)
  case atStart => exact ⟨0, Nat.zero_le _, rfl, by omega, 0, rfl⟩
  case round =>
    obtain ⟨k, hk, rfl, hall, q, rfl⟩ := hrel
    have HA := Lib.hid hall
    clear hall
    by_cases hlt : k < n
    · obtain ⟨bb, off, rfl, hc1⟩ := ha.at_ hlt
      by_cases hp : hasL b (gi a k) = true
      · have E := Lib.hid (meetC_of (by rw [ha.len]; exact hlt) hp)
        have HP := Lib.hid hp
        clear hp
        go_wp2_with fail
        refine (w6Has _ _ _ b _ _ (hb.keep (Qt.keeps ⟨_, rfl⟩))).mono ?_; rintro e w' ⟨rfl, q2, rfl⟩
        rw [HP.out]
        go_wp2
        go_ret
        exact ⟨ret_b E.out.symm, _, rfl⟩
      · have hp' : hasL b (gi a k) = false := by simpa using hp
        have HP := Lib.hid hp'
        clear hp hp'
        go_wp2_with fail
        refine (w6Has _ _ _ b _ _ (hb.keep (Qt.keeps ⟨_, rfl⟩))).mono ?_; rintro e w' ⟨rfl, q2, rfl⟩
        rw [HP.out]
        go_wp2
        go_roundw
        case rel => exact ⟨k + 1, by omega, by go_num, all_succ HA.out HP.out, _, rfl⟩
        case measure => simp [intOf]; omega
    · obtain rfl : k = n := by omega
      have E := Lib.hid (meetC_no ha.len HA.out)
      go_wp2
      go_ret
      exact ⟨ret_b E.out.symm, _, rfl⟩

/-- a plan made full: the least successor where it lacks one -/
def fullV (o : List Int) (n : List (List Int)) (who : Int) (p : List Int) (v : Nat) : Int := if gi o v = who then (if 0 ≤ gi p v then gi p v else gi (gl n v) 0) else -1
def fullL (o : List Int) (n : List (List Int)) (who : Int) (p : List Int) : List Int := fill (fullV o n who p) o.length
theorem fullL_full {o : List Int} {n : List (List Int)} {who : Int} {p : List Int} (hf : fineAr o n) (hp : fineP o n who p) : fullP o n who (fullL o n who p) := by
  refine ⟨fill_len _ _, fun v hv => ?_⟩
  unfold fullL
  rw [fill_at hv]
  unfold fullV
  refine ⟨fun e => ?_, fun e => if_neg e⟩
  rw [if_pos e]
  rcases hp.2 v hv with h | h
  · rw [if_neg (by omega)]
    exact decide_eq_true (gi_mem (by have := (hf.2.2.2 v hv).2.1.1; omega))
  · rw [if_pos (row_has hf hv h.2).1]
    exact h.2

set_option maxRecDepth 100000 in
set_option maxHeartbeats 800000 in
theorem w6Full (A0 A1 C : Option Addr) (n0 c0 n1 c1 m d : Nat) (o : List Int) (n : List (List Int)) (who : Int) (p : List Int) (w : World) (B : Nat) (hB : B ≤ w.heap.size) (ha : RI w A0 n0 c0 o) (hb : RII w A1 n1 c1 n) (hp : RI w C m d p) (hf : fineAr o n) (hfp : fineP o n who p) :
    Calls Try.prog 96 #[.agg #[.slice A0 n0 c0, .slice A1 n1 c1], .int .i64 who, .slice C m d] w fun e w' => ∃ v, e = .returned v ∧ OI 2 w' B v (fullL o n who p) ∧ Below B w w' := by
  have HL := Lib.hid ha.len; have HM := Lib.hid hb.len
  have hn0 : n0 ≤ 256 := by have := hf.2.1; rw [HL.out] at this; omega
  have h01 : n1 = n0 := by rw [← HM.out, hf.2.2.1, HL.out]
  have HF := Lib.hid hf
  have H01 := Lib.hid h01
  have hn1 : n1 ≤ 256 := by omega
  clear h01
  have b1 := ha.cap; have b2 := ha.top; have b3 := hb.cap; have b4 := hb.top
  have hpl : m = n0 := by rw [← hp.len, hfp.1, HL.out]
  subst hpl
  have b5 := hp.cap; have b6 := hp.top
  have EF := Lib.hid (show fullL o n who p = fill (fullV o n who p) m by unfold fullL; rw [HL.out])
  have hba : Below w.heap.size w (w.alloc (.cells #[.slice A0 m c0, .slice A1 n1 c1] 30)) := below_alloc (Nat.le_refl _) (Below.refl _ _)
  have bx := Box.new w 30 #[.slice A0 m c0, .slice A1 n1 c1]
  have hw2 : Below w.heap.size w ((w.alloc (.cells #[.slice A0 m c0, .slice A1 n1 c1] 30)).alloc (.cells #[] 2)) := below_alloc (Nat.le_refl _) hba
  have hem := OI.empty (E := 2) (w := w.alloc (.cells #[.slice A0 m c0, .slice A1 n1 c1] 30)) (B := w.heap.size + 1) (by simp)
  replace bx := bx.alloc (.cells #[] 2)
  go_enter Try.func96, Try.ntmps96
  go_wp2
  go_loopw [7, 8, 9] (fun u i _ wr => ∃ k : Nat, k ≤ m ∧ i = .int .i64 k ∧ OI 2 wr (w.heap.size + 1) u (fill (fullV o n who p) k) ∧ Box wr w.heap.size 30 #[.slice A0 m c0, .slice A1 n1 c1] ∧ Below w.heap.size w wr) (fun _ i _ _ => m - (intOf i).toNat)
  case atStart => exact ⟨0, Nat.zero_le _, rfl, by simpa [fill] using hem, bx, hw2⟩
  case round =>
    clear hem bx hw2 hba
    obtain ⟨k, hk, rfl, ho, bx, hq⟩ := hrel
    have q0 := bx.d0; have q1 := bx.d1
    have hbl := bx.lt
    by_cases hkl : k < m
    · obtain ⟨bp, op, rfl, hcP⟩ := hp.at_ hkl
      obtain ⟨bo, oo, rfl, hcO⟩ := ha.at_ hkl
      obtain ⟨bn, on, An, nn, cn, rfl, hcN, rn⟩ := hb.at_ (show k < n1 by have := H01.out; omega)
      have kO := keeps_below hq _ _ hcO; have kN := keeps_below hq _ _ hcN; have kP := keeps_below hq _ _ hcP
      have hki : (k : Int) < (m : Int) := by omega
      have hki1 : (k : Int) < (n1 : Int) := by have := H01.out; omega
      have hk0 : (0 : Int) ≤ (k : Int) := by omega
      have hlen : (fill (fullV o n who p) k).length ≤ 4194304 := by rw [fill_len]; omega
      have hsz : w.heap.size + 1 ≤ wr.heap.size := by omega
      have HS := Lib.hid (fill_succ (fullV o n who p) k)
      have hnn1 : 1 ≤ nn := by
        have := (HF.out.2.2.2 k (by rw [HL.out]; exact hkl)).2.1.1
        rw [rn.len] at this; exact this
      by_cases hown : gi o k = who
      · have e1 : (gi o k == who) = true := by simp [hown]
        by_cases hge : 0 ≤ gi p k
        · have HV := Lib.hid (show fullV o n who p k = gi p k by unfold fullV; rw [if_pos hown, if_pos hge])
          obtain ⟨br, or', rfl, hcR⟩ := rn.at_ (show 0 < nn by omega)
          have kR : wr.cell? ⟨br, or', none⟩ = some (.int .i64 (gi (gl n k) 0)) := keeps_below hq _ _ hcR
          have hnni : (0 : Int) < (nn : Int) := by omega
          have hd : decide (0 ≤ gi p k) = true := decide_eq_true hge
          clear hown
          go_wp2_with (at_builtin; refine wpList_pushI rfl (.tmp 47) (.tmp 49) rfl _ (w.heap.size + 1) u7 (fill (fullV o n who p) k) (by rfl) ho _ (by rfl) hlen hsz ?_; intro v2 w2 ho2 hb2 hc2 hat2)
          go_wp2
          go_roundw
          case rel => exact ⟨k + 1, by omega, by go_num, by rw [HS.out, HV.out]; exact ho2, bx.below hb2 (by omega), hq.trans (hb2.mono (by omega))⟩
          case measure => simp [intOf]; omega
        · have HV := Lib.hid (show fullV o n who p k = gi (gl n k) 0 by unfold fullV; rw [if_pos hown, if_neg hge])
          obtain ⟨br, or', rfl, hcR⟩ := rn.at_ (show 0 < nn by omega)
          have kR : wr.cell? ⟨br, or', none⟩ = some (.int .i64 (gi (gl n k) 0)) := keeps_below hq _ _ hcR
          have hnni : (0 : Int) < (nn : Int) := by omega
          have hd : decide (0 ≤ gi p k) = false := decide_eq_false hge
          clear hown
          go_wp2_with (at_builtin; refine wpList_pushI rfl (.tmp 47) (.tmp 49) rfl _ (w.heap.size + 1) u7 (fill (fullV o n who p) k) (by rfl) ho _ (by rfl) hlen hsz ?_; intro v2 w2 ho2 hb2 hc2 hat2)
          go_wp2
          go_roundw
          case rel => exact ⟨k + 1, by omega, by go_num, by rw [HS.out, HV.out]; exact ho2, bx.below hb2 (by omega), hq.trans (hb2.mono (by omega))⟩
          case measure => simp [intOf]; omega
      · have e1 : (gi o k == who) = false := by simp [hown]
        have HV := Lib.hid (show fullV o n who p k = -1 by unfold fullV; rw [if_neg hown])
        clear hown
        go_wp2_with (at_builtin; refine wpList_pushI rfl (.tmp 47) (.tmp 49) rfl _ (w.heap.size + 1) u7 (fill (fullV o n who p) k) (by rfl) ho _ (by rfl) hlen hsz ?_; intro v2 w2 ho2 hb2 hc2 hat2)
        go_wp2
        go_roundw
        case rel => exact ⟨k + 1, by omega, by go_num, by rw [HS.out, HV.out]; exact ho2, bx.below hb2 (by omega), hq.trans (hb2.mono (by omega))⟩
        case measure => simp [intOf]; omega
    · obtain rfl : k = m := by omega
      go_wp2
      go_ret
      exact ⟨_, rfl, by rw [EF.out]; exact ho.more (by omega), hq.mono hB⟩
theorem cellC {b bl off : Nat} {w w' : World} {v : Value} (hc : Chg (fun y => y = b) w w') (h : w.cell? ⟨bl, off, none⟩ = some v) (hne : bl ≠ b) : w'.cell? ⟨bl, off, none⟩ = some v := by
  have hl := World.block_lt_of_cell? w _ h
  exact (World.cell?_of_block (w := w) (hc.block bl (by simpa using hl) (fun e => hne e))).trans h
theorem cellL {bl off : Nat} {w : World} {v : Value} (h : w.cell? ⟨bl, off, none⟩ = some v) : bl < w.heap.size := by simpa using World.block_lt_of_cell? w _ h

/-- a full plan by dice -/
def PlanBy (w0 w : World) (b : Nat) (o : List Int) (n : List (List Int)) (who : Int) (e : Ending) (w' : World) : Prop :=
  ∃ v p, e = .returned v ∧ fullP o n who p ∧ OI 2 w' w.heap.size v p ∧ DiceAt w0 w' b ∧ Chg (fun y => y = b) w w'
/-- a full plan as far as vertex k -/
def planUp (o : List Int) (n : List (List Int)) (who : Int) (p : List Int) (k : Nat) : Prop := p.length = k ∧ ∀ v, v < k → (gi o v = who → hasL (gl n v) (gi p v) = true) ∧ (¬ gi o v = who → gi p v = -1)
theorem planUp_succ {o : List Int} {n : List (List Int)} {who : Int} {p : List Int} {k : Nat} {x : Int} (h : planUp o n who p k) (h1 : gi o k = who → hasL (gl n k) x = true) (h2 : ¬ gi o k = who → x = -1) : planUp o n who (p ++ [x]) (k + 1) := by
  refine ⟨by rw [List.length_append, h.1]; rfl, fun v hv => ?_⟩
  by_cases e : v < k
  · rw [gi_app_lt (by rw [h.1]; exact e)]; exact h.2 v e
  · obtain rfl : v = k := by omega
    rw [show gi (p ++ [x]) v = x by rw [← h.1]; exact gi_app_eq]
    exact ⟨h1, h2⟩

theorem OArn.cells {w : World} {lo : Nat} {s0 s1 : Value} {z : ArD} (h : OArn w lo s0 s1 z) {k : Nat} (hk : k < z.2.length) (hn : 0 < (gl z.2 k).length) :
    ∃ c1 bn br cn, s1 = .slice (some ⟨bn, 0, none⟩) z.2.length c1 ∧ lo ≤ bn ∧ w.cell? ⟨bn, k, none⟩ = some (.slice (some ⟨br, 0, none⟩) (gl z.2 k).length cn) ∧ lo ≤ br ∧ (∀ j, j < (gl z.2 k).length → w.cell? ⟨br, j, none⟩ = some (.int .i64 (gi (gl z.2 k) j))) ∧ (gl z.2 k).length ≤ cn ∧ cn ≤ 9223372036854775807 := by
  obtain ⟨cs, ⟨h0, h1, h2⟩, hd⟩ := h
  have hl := row_len h1
  obtain ⟨br, cn, e⟩ := (h2 k (by omega)).form2 hn
  have hok := h2 k (by omega)
  have h1' := h1
  rcases h1.2 with ⟨_, h3⟩ | ⟨g, cap, cur, rfl, _⟩
  · omega
  · have hc := row_cell h1' (j := k) (by omega)
    rw [e] at hc hok
    exact ⟨cap, g, br, cn, rfl, (World.ownsRow.lt h1' g rfl).1, hc, (hok.lt br rfl).1, fun j hj => hok.cellAt hj, hok.reads.cap, hok.reads.top⟩

set_option maxRecDepth 100000 in
set_option maxHeartbeats 1600000 in
theorem w6Plan (s0 s1 : Value) (z : ArD) (who : Int) (w0 w : World) (b lo : Nat) (hd : DiceAt w0 w b) (ho : OArn w lo s0 s1 z) (hbl : b < lo) (hf : fineAr z.1 z.2) :
    Calls Try.prog 68 #[.pointer (some ⟨b, 0, none⟩), .agg #[s0, s1], .int .i64 who] w (PlanBy w0 w b z.1 z.2 who) := by
  have HF := Lib.hid hf
  have hz8 : z.1.length ≤ 256 := hf.2.1
  have HZ := Lib.hid hf.2.2.1
  have hz2 : z.2.length ≤ 256 := by have := HZ.out; omega
  have hdl := hd.lt
  have hba : Below w.heap.size w ((w.alloc (.cells #[s0, s1] 30)).alloc (.cells #[] 2)) := below_alloc (Nat.le_refl _) (below_alloc (Nat.le_refl _) (Below.refl _ _))
  have bx := (Box.new w 30 #[s0, s1]).alloc (.cells #[] 2)
  have hem := OI.empty (E := 2) (w := w.alloc (.cells #[s0, s1] 30)) (B := w.heap.size + 1) (by simp)
  have hcc := (Chg.refl (fun y => y = b) w).then_below hba (Nat.le_refl _)
  have hd' := hd.on hba
  obtain ⟨A0, c0, A1, c1, rfl, rfl⟩ := ho.form
  clear hf hd hba
  have ho0 := ho
  clear ho
  go_enter Try.func68, Try.ntmps68
  go_wp2
  go_loopw [7, 8, 9] (fun u i _ wr => ∃ (k : Nat) (p : List Int), k ≤ z.1.length ∧ i = .int .i64 k ∧ planUp z.1 z.2 who p k ∧ OI 2 wr (w.heap.size + 1) u p ∧ Box wr w.heap.size 30 #[.slice A0 z.1.length c0, .slice A1 z.2.length c1] ∧ DiceAt w0 wr b ∧ Chg (fun y => y = b) w wr) (fun _ i _ _ => z.1.length - (intOf i).toNat)
  case atStart => exact ⟨0, [], Nat.zero_le _, rfl, ⟨rfl, fun v hv => absurd hv (by omega)⟩, by simpa using hem, bx, hd', hcc⟩
  case round =>
    clear hem bx hd' hcc
    obtain ⟨k, p, hk, rfl, hpu, hop, bx, hdr, hc⟩ := hrel
    have ho := ho0.chg hc (fun y hy => by have h3 : y = b := hy; omega)
    have HP := Lib.hid hpu
    have hpl : p.length ≤ 4194304 := by rw [hpu.1]; omega
    clear hpu
    have q0 := bx.d0; have q1 := bx.d1
    have hbx := bx.lt
    have hsz : w.heap.size + 1 ≤ wr.heap.size := by omega
    by_cases hkl : k < z.1.length
    · have hkl2 : k < z.2.length := by rw [HZ.out]; exact hkl
      have hrow := HF.out.2.2.2 k hkl
      have hnn1 : 1 ≤ (gl z.2 k).length := hrow.2.1.1
      have hnn2 : (gl z.2 k).length ≤ 16 := hrow.2.1.2
      obtain ⟨c1', bn, br, cn, hA1, hbn, kN, hbr, kR, hcn1, hcn2⟩ := ho.cells hkl2 (by omega)
      injection hA1 with hA1 _ hc1'
      subst hA1; subst hc1'
      obtain ⟨bo, oo, rfl, kO⟩ := ho.reads.ri.at_ hkl
      have hki : (k : Int) < (z.1.length : Int) := by omega
      have hki1 : (k : Int) < (z.2.length : Int) := by omega
      have hk0 : (0 : Int) ≤ (k : Int) := by omega
      have HR := Lib.hid hrow
      clear hrow
      by_cases hown : gi z.1 k = who
      · have e1 : (gi z.1 k == who) = true := by simp [hown]
        have HO := Lib.hid hown
        obtain ⟨nn, hnn⟩ : ∃ nn, nn = (gl z.2 k).length := ⟨_, rfl⟩
        rw [← hnn] at kN kR hnn1 hnn2 hcn1
        have HNN := Lib.hid hnn
        clear hown hnn
        go_wp2_with fail
        refine wp_region_held_drew (S := (fun w' => w'.cell? ⟨w.heap.size, 1, none⟩ = some (.slice (some ⟨bn, 0, none⟩) z.2.length c1) ∧ w'.cell? ⟨bn, k, none⟩ = some (.slice (some ⟨br, 0, none⟩) nn cn))) (by kernel_rfl) ⟨q1, kN⟩ (fun hHeld => ?_)
        have hdD := hdr.on (Below.drew (Below.refl wr.heap.size wr))
        have bxD : Box wr.drew _ _ _ := bx
        have hcD : Chg (fun y => y = b) w wr.drew := hc.drewN 1
        have hopD := hop.drew
        replace q1 : wr.drew.cell? _ = some _ := q1
        replace kN : wr.drew.cell? _ = some _ := kN
        replace kR : ∀ j, j < nn → wr.drew.cell? ⟨br, j, none⟩ = some (.int .i64 (gi (gl z.2 k) j)) := kR
        clear hdr bx hc hop q0 kO
        generalize wr.drew = wD at *
        refine takeH0 (v := ?_) (by kernel_rfl) (by kernel_rfl) (by kernel_rfl) (fun _ _ _ h => h) hHeld (by rfl) ?_ ?_
        rotate_left; · (intro w hSw; (try dsimp only at hSw); go_simp; try with_reducible rfl)
        try simp only [Act.put, List.setIfInBounds_toArray, List.set_cons_zero, List.set_cons_succ]
        refine takeH1 (v := ?_) (by kernel_rfl) (by kernel_rfl) (by kernel_rfl) (fun _ _ _ h => h) hHeld (by rfl) ?_ ?_
        rotate_left; · (intro w hSw; (try dsimp only at hSw); go_simp; try with_reducible rfl)
        try simp only [Act.put, List.setIfInBounds_toArray, List.set_cons_zero, List.set_cons_succ]
        refine takeH2 (v := ?_) (by kernel_rfl) (by kernel_rfl) (by kernel_rfl) (fun _ _ _ h => h) hHeld (by rfl) ?_ ?_
        rotate_left; · (intro w hSw; (try dsimp only at hSw); go_simp; try with_reducible rfl)
        try simp only [Act.put, List.setIfInBounds_toArray, List.set_cons_zero, List.set_cons_succ]
        refine takeH3 (v := ?_) (by kernel_rfl) (by kernel_rfl) (by kernel_rfl) (fun _ _ _ h => h) hHeld (by rfl) ?_ ?_
        rotate_left; · (intro w hSw; (try dsimp only at hSw); go_simp; try with_reducible rfl)
        try simp only [Act.put, List.setIfInBounds_toArray, List.set_cons_zero, List.set_cons_succ]
        refine takeH4 (v := ?_) (by kernel_rfl) (by kernel_rfl) (by kernel_rfl) (fun _ _ _ h => h) hHeld (by rfl) ?_ ?_
        rotate_left; · (intro w hSw; (try dsimp only at hSw); go_simp; try with_reducible rfl)
        try simp only [Act.put, List.setIfInBounds_toArray, List.set_cons_zero, List.set_cons_succ]
        refine takeH5 (v := ?_) (by kernel_rfl) (by kernel_rfl) (by kernel_rfl) (fun _ _ _ h => h) hHeld (by rfl) ?_ ?_
        rotate_left; · (intro w hSw; (try dsimp only at hSw); go_simp; try with_reducible rfl)
        try simp only [Act.put, List.setIfInBounds_toArray, List.set_cons_zero, List.set_cons_succ]
        refine takeH6 (v := ?_) (by kernel_rfl) (by kernel_rfl) (by kernel_rfl) (fun _ _ _ h => h) hHeld (by rfl) ?_ ?_
        rotate_left; · (intro w hSw; (try dsimp only at hSw); go_simp; try with_reducible rfl)
        try simp only [Act.put, List.setIfInBounds_toArray, List.set_cons_zero, List.set_cons_succ]
        refine takeH7 (v := ?_) (by kernel_rfl) (by kernel_rfl) (by kernel_rfl) (fun _ _ _ h => h) hHeld (by rfl) ?_ ?_
        rotate_left; · (intro w hSw; (try dsimp only at hSw); go_simp; try with_reducible rfl)
        try simp only [Act.put, List.setIfInBounds_toArray, List.set_cons_zero, List.set_cons_succ]
        refine takeH8 (v := ?_) (by kernel_rfl) (by kernel_rfl) (by kernel_rfl) (fun _ _ _ h => h) hHeld (by rfl) ?_ ?_
        rotate_left; · (intro w hSw; (try dsimp only at hSw); go_simp; try with_reducible rfl)
        try simp only [Act.put, List.setIfInBounds_toArray, List.set_cons_zero, List.set_cons_succ]
        refine takeH9 (v := ?_) (by kernel_rfl) (by kernel_rfl) (by kernel_rfl) (fun _ _ _ h => h) hHeld (by rfl) ?_ ?_
        rotate_left; · (intro w hSw; (try dsimp only at hSw); go_simp; try with_reducible rfl)
        try simp only [Act.put, List.setIfInBounds_toArray, List.set_cons_zero, List.set_cons_succ]
        refine takeH10 (v := ?_) (by kernel_rfl) (by kernel_rfl) (by kernel_rfl) (fun _ _ _ h => h) hHeld (by rfl) ?_ ?_
        rotate_left; · (intro w hSw; (try dsimp only at hSw); go_simp; try with_reducible rfl)
        try simp only [Act.put, List.setIfInBounds_toArray, List.set_cons_zero, List.set_cons_succ]
        refine takeH11 (v := ?_) (by kernel_rfl) (by kernel_rfl) (by kernel_rfl) (fun _ _ _ h => h) hHeld (by rfl) ?_ ?_
        rotate_left; · (intro w hSw; (try dsimp only at hSw); go_simp; try with_reducible rfl)
        try simp only [Act.put, List.setIfInBounds_toArray, List.set_cons_zero, List.set_cons_succ]
        refine callH12 (by kernel_rfl) (fun K hK => ?_)
        go_simp
        go_at_call 18
        refine (below w0 _ b nn hdD (by omega)).mono ?_; rintro e w4 ⟨x, rfl, hx4, hd4, hc4⟩
        obtain ⟨x', rfl⟩ := Int.eq_ofNat_of_zero_le hx4.1
        have hx4l : x' < nn := by omega
        have hx4i : (x' : Int) < (nn : Int) := by omega
        have hx40 : (0 : Int) ≤ (x' : Int) := by omega
        have bx4 : Box w4 w.heap.size 30 #[.slice (some ⟨bo, oo, none⟩) z.1.length c0, .slice (some ⟨bn, 0, none⟩) z.2.length c1] := (hc4.block _ bxD.lt (fun e => by have h3 : w.heap.size = b := e; omega)).trans bxD
        have hop4 := hopD.chg hc4 (fun y hy e => by have := (hopD.lt y hy).1; have h3 : y = b := e; omega)
        have q1 := bx4.d1
        have kN := cellC hc4 kN (by omega)
        have kX : w4.cell? ⟨br, x', none⟩ = some (.int .i64 (gi (gl z.2 k) x')) := cellC hc4 (kR x' hx4l) (by omega)
        have hcc4 := chg_then hcD hc4
        have hsz4 := hcc4.size
        go_wp2_with fail
        refine hK.out _ _ (⟨q1, kN⟩) (fun hHeld => ?_)
        clear hK K
        try simp only [Act.put, List.setIfInBounds_toArray, List.set_cons_zero, List.set_cons_succ]
        refine takeH13 (v := ?_) (by kernel_rfl) (by kernel_rfl) (by kernel_rfl) (fun _ _ _ h => h) hHeld (by rfl) ?_ ?_
        rotate_left; · (intro w hSw; (try dsimp only at hSw); go_simp; try with_reducible rfl)
        try simp only [Act.put, List.setIfInBounds_toArray, List.set_cons_zero, List.set_cons_succ]
        refine callH14 (by kernel_rfl) (fun K hK => ?_)
        go_simp
        refine hK.out _ _ (⟨q1, kN⟩) (fun hHeld => ?_)
        clear hK K
        try simp only [Act.put, List.setIfInBounds_toArray, List.set_cons_zero, List.set_cons_succ]
        refine takeH15 (v := ?_) (by kernel_rfl) (by kernel_rfl) (by kernel_rfl) (fun _ _ _ h => h) hHeld (by rfl) ?_ ?_
        rotate_left; · (intro w hSw; (try dsimp only at hSw); go_simp; try with_reducible rfl)
        try simp only [Act.put, List.setIfInBounds_toArray, List.set_cons_zero, List.set_cons_succ]
        refine wpAnyH_done (by kernel_rfl) ?_ _
        have HXX := Lib.hid (show hasL (gl z.2 k) (gi (gl z.2 k) x') = true from decide_eq_true (gi_mem (by rw [← HNN.out]; exact hx4l)))
        have hsz5 : w.heap.size + 1 ≤ w4.heap.size := by have := bx4.lt; omega
        go_wp2_with (at_builtin; refine wpList_pushI rfl (.tmp 40) (.tmp 42) rfl _ (w.heap.size + 1) u7 p (by rfl) hop4 _ (by rfl) hpl hsz5 ?_; intro v2 w2 ho2 hb2 hc2 hat2)
        go_wp2
        go_roundw
        case rel => exact ⟨k + 1, p ++ [gi (gl z.2 k) x'], by omega, by go_num, planUp_succ HP.out (fun _ => HXX.out) (fun e => absurd HO.out e), ho2, bx4.below hb2 (by omega), hd4.chg hc2 (fun y hy => by have := (hop4.lt y hy).1; omega), hcc4.push hc2 (fun y hy => .inr (by have := (hop4.lt y hy).1; omega))⟩
        case measure => simp [intOf]; omega
      · have e1 : (gi z.1 k == who) = false := by simp [hown]
        have HO := Lib.hid hown
        clear hown
        go_wp2_with (at_builtin; refine wpList_pushI rfl (.tmp 40) (.tmp 42) rfl _ (w.heap.size + 1) u7 p (by rfl) hop _ (by rfl) hpl hsz ?_; intro v2 w2 ho2 hb2 hc2 hat2)
        go_wp2
        go_roundw
        case rel => exact ⟨k + 1, p ++ [-1], by omega, by go_num, planUp_succ HP.out (fun e => absurd e HO.out) (fun _ => rfl), ho2, bx.below hb2 (by omega), hdr.chg hc2 (fun y hy => by have := (hop.lt y hy).1; omega), hc.push hc2 (fun y hy => .inr (by have := (hop.lt y hy).1; omega))⟩
        case measure => simp [intOf]; omega
    · obtain rfl : k = z.1.length := by omega
      go_wp2
      go_ret
      exact ⟨_, p, rfl, ⟨HP.out.1, HP.out.2⟩, hop.more (by omega), hdr, hc⟩
end Go.Proofs.Ytefjhkcafcchlaa
namespace Go.Proofs.Ytefjhkcafcchlaa
open Go.RowKit

/-- a play of who by a plan, of the other one by dice -/
def LassoBy (w0 w : World) (b : Nat) (z : ArD) (who : Int) (p : List Int) (v : Nat) (e : Ending) (w' : World) : Prop :=
  ∃ v0 v1 st lp q, e = .returned (.agg #[v0, v1]) ∧ fullP z.1 z.2 (1 - who) q ∧ isPlay (if who = 1 then nxN z.1 q (fullL z.1 z.2 who p) else nxN z.1 (fullL z.1 z.2 who p) q) v st lp ∧ (st.length ≤ z.1.length ∧ lp.length ≤ z.1.length) ∧ OI 2 w' w.heap.size v0 st ∧ OI 2 w' w.heap.size v1 lp ∧ DiceAt w0 w' b ∧ Chg (fun y => y = b) w w'

set_option maxRecDepth 100000 in
set_option maxHeartbeats 1600000 in
theorem w6Against (s0 s1 vp : Value) (z : ArD) (who : Int) (p : List Int) (v : Nat) (w0 w : World) (b lo lp0 : Nat) (hd : DiceAt w0 w b) (ho : OArn w lo s0 s1 z) (hbl : b < lo) (hop : OI 2 w lp0 vp p) (hbp : b < lp0) (har : arB z.1 z.2 = true) (hw : 0 ≤ who ∧ who ≤ 1) (hfp : fineP z.1 z.2 who p) (hv : v < z.1.length) :
    Calls Try.prog 30 #[.pointer (some ⟨b, 0, none⟩), .agg #[s0, s1], .int .i64 who, vp, .int .i64 (v : Int)] w (LassoBy w0 w b z who p v) := by
  have hf := fineAr_of har
  have HF := Lib.hid hf
  have HAR := Lib.hid har
  have HFF := Lib.hid (fullL_full hf hfp)
  have hdl := hd.lt
  have hw0 := hw.1; have hw1 := hw.2
  obtain ⟨A0, c0, A1, c1, rfl, rfl⟩ := ho.form
  obtain ⟨Ap, cp, rfl⟩ := hop.form
  have hba : Below w.heap.size w ((w.alloc (.cells #[.slice A0 z.1.length c0, .slice A1 z.2.length c1] 30)).alloc (.cells #[.slice none 0 0, .slice none 0 0] 41)) := below_alloc (Nat.le_refl _) (below_alloc (Nat.le_refl _) (Below.refl _ _))
  have bx := (Box.new w 30 #[.slice A0 z.1.length c0, .slice A1 z.2.length c1]).alloc (.cells #[.slice none 0 0, .slice none 0 0] 41)
  have bR : Box ((w.alloc (.cells #[.slice A0 z.1.length c0, .slice A1 z.2.length c1] 30)).alloc (.cells #[.slice none 0 0, .slice none 0 0] 41)) (w.heap.size + 1) 41 #[.slice none 0 0, .slice none 0 0] := Box.new' (by simp)
  have hcc := (Chg.refl (fun y => y = b) w).then_below hba (Nat.le_refl _)
  have ho1 := ho.below hba; have hop1 := hop.below hba; have hd1 := hd.on hba
  have q0 := bx.d0; have q1 := bx.d1
  have hW2 : w.heap.size + 2 ≤ ((w.alloc (.cells #[.slice A0 z.1.length c0, .slice A1 z.2.length c1] 30)).alloc (.cells #[.slice none 0 0, .slice none 0 0] 41)).heap.size := by simp
  go_enter Try.func30, Try.ntmps30
  go_wp2_with fail
  generalize ((w.alloc (.cells #[.slice A0 z.1.length c0, .slice A1 z.2.length c1] 30)).alloc (.cells #[.slice none 0 0, .slice none 0 0] 41)) = W at *
  refine (w6Full _ _ _ _ _ _ _ _ _ z.1 z.2 who p _ _ (Nat.le_refl _) ho1.reads.ri ho1.reads.rii hop1.reads hf hfp).mono ?_; rintro e w3 ⟨v3, rfl, hoF, hb3⟩
  obtain ⟨Af, cf, rfl⟩ := hoF.form
  have ho3 := ho1.below hb3
  have hd3 := hd1.on hb3
  have hcc3 := hcc.then_below hb3 hcc.size
  have hWs := hcc.size
  replace bx := bx.below hb3 bx.lt; replace bR := bR.below hb3 bR.lt
  clear q0 q1
  have q0 := bx.d0; have q1 := bx.d1
  have hbx := bx.lt
  have e1w : IntKind.i64.wrap (1 - who) = 1 - who := IntWalk.i64_in _ (by omega)
  go_wp2_with fail
  refine (w6Plan _ _ z (1 - who) w0 _ b lo hd3 ho3 hbl hf).mono ?_; rintro e w4 ⟨v4, q, rfl, hqf, hoQ, hd4, hc4⟩
  obtain ⟨Aq, cq, rfl⟩ := hoQ.form
  have HQR := Lib.hid hqf
  have ho4 := ho3.chg hc4 (fun y hy => by have h3 : y = b := hy; omega)
  have hsF := hoF.lt
  replace hoF := hoF.chg hc4 (fun y hy e => by have := (hsF y hy).1; have h3 : y = b := e; omega)
  have hcc := chg_then hcc3 hc4
  replace bx : Box w4 w.heap.size 30 #[.slice A0 z.1.length c0, .slice A1 z.2.length c1] := (hc4.block _ bx.lt (fun e => by have h3 : w.heap.size = b := e; omega)).trans bx
  replace bR : Box w4 (w.heap.size + 1) 41 #[.slice none 0 0, .slice none 0 0] := (hc4.block _ bR.lt (fun e => by have h3 : w.heap.size + 1 = b := e; omega)).trans bR
  clear q0 q1 hqf ho1 ho3 hd3 hcc3 hb3 hd1 hop1 hop ho hd e1w
  have q0 := bx.d0; have q1 := bx.d1
  by_cases hw : who = 1
  · have HQ := Lib.hid (show fullP z.1 z.2 0 q by have h := HQR.out; rw [hw] at h; exact h)
    have HFF := Lib.hid (show fullP z.1 z.2 1 (fullL z.1 z.2 who p) by have h := HFF.out; rw [hw] at h ⊢; exact h)
    have e1 : (who == 1) = true := by simp [hw]
    have HW := Lib.hid hw
    clear hw
    go_wp2_with fail
    refine (playOf _ _ _ _ _ _ _ _ _ _ _ _ z.1 z.2 q (fullL z.1 z.2 who p) v _ _ (Nat.le_refl _) ho4.reads.ri ho4.reads.rii hoQ.reads hoF.reads HF.out HAR.out HQ.out HFF.out hv).mono ?_; rintro e w5 ⟨v5, v6, st, lp, rfl, hpl, hlen, ho5, ho6, hb5⟩
    obtain ⟨A5, c5, rfl⟩ := ho5.form
    obtain ⟨A6, c6, rfl⟩ := ho6.form
    have bR5 := bR.below hb5 bR.lt
    have hcc5 := hcc.then_below hb5 hcc.size
    have hd5 := hd4.on hb5
    have hbB : Below w5.heap.size w5 (w5.alloc (.cells #[.slice A5 st.length c5, .slice A6 lp.length c6] 41)) := below_alloc (Nat.le_refl _) (Below.refl _ _)
    have bRB := bR5.below hbB bR5.lt
    have bN := Box.new w5 41 #[.slice A5 st.length c5, .slice A6 lp.length c6]
    have m0 := bRB.cell 0; have m1 := bRB.cell 1; have f0 := bRB.hot 0; have f1 := bRB.hot 1
    simp only [List.getElem?_toArray, List.getElem?_cons_zero, List.getElem?_cons_succ] at m0 m1
    have ch : Chg (fun y => y = w.heap.size + 1) (w5.alloc (.cells #[.slice A5 st.length c5, .slice A6 lp.length c6] 41)) (((w5.alloc (.cells #[.slice A5 st.length c5, .slice A6 lp.length c6] 41)).setCell ⟨w.heap.size + 1, 0, none⟩ (.slice A5 st.length c5)).setCell ⟨w.heap.size + 1, 1, none⟩ (.slice A6 lp.length c6)) := (Chg.set (w := (w5.alloc (.cells #[.slice A5 st.length c5, .slice A6 lp.length c6] 41))) ⟨w.heap.size + 1, 0, none⟩ (.slice A5 st.length c5)).trans (Chg.set ⟨w.heap.size + 1, 1, none⟩ (.slice A6 lp.length c6)) (U := fun y => y = w.heap.size + 1) (fun _ h => h) (fun _ h => h)
    have bF : Box (((w5.alloc (.cells #[.slice A5 st.length c5, .slice A6 lp.length c6] 41)).setCell ⟨w.heap.size + 1, 0, none⟩ (.slice A5 st.length c5)).setCell ⟨w.heap.size + 1, 1, none⟩ (.slice A6 lp.length c6)) (w.heap.size + 1) 41 #[.slice A5 st.length c5, .slice A6 lp.length c6] := (bRB.set_ 0 (.slice A5 st.length c5)).set_ 1 (.slice A6 lp.length c6)
    have R0 := bF.cell 0; have R1 := bF.cell 1
    simp only [List.getElem?_toArray, List.getElem?_cons_zero, List.getElem?_cons_succ] at R0 R1
    have hs4 := hcc.size; have hRl := bR.lt
    have fo5 := ((ho5.below hbB).chg ch (fun y hy e => by have := (ho5.lt y hy).1; have e2 : y = w.heap.size + 1 := e; omega)).more (lo' := w.heap.size) (by omega)
    have fo6 := ((ho6.below hbB).chg ch (fun y hy e => by have := (ho6.lt y hy).1; have e2 : y = w.heap.size + 1 := e; omega)).more (lo' := w.heap.size) (by omega)
    have fd := (hd5.on hbB).chg ch (fun y hy => by omega)
    have fc := (hcc5.then_below hbB hcc5.size).push ch (fun y hy => .inr (by omega))
    have HPL := Lib.hid hpl; have HLEN := Lib.hid hlen
    clear hpl hlen
    go_wp2
    exact bodyPost_ret (v := .agg #[.slice A5 st.length c5, .slice A6 lp.length c6]) (by simp [results, Try.results30, go_sem, R0, R1]) rfl ⟨_, _, st, lp, q, rfl, HQR.out, by first | (rw [if_pos (show who = 1 from HW.out)]; exact HPL.out) | fail, HLEN.out, fo5, fo6, fd, fc⟩
  · have HQ := Lib.hid (show fullP z.1 z.2 1 q by have h := HQR.out; rw [show who = 0 by omega] at h; exact h)
    have HFF := Lib.hid (show fullP z.1 z.2 0 (fullL z.1 z.2 who p) by have h := HFF.out; rw [show who = 0 by omega] at h ⊢; exact h)
    have e1 : (who == 1) = false := by simp [hw]
    have HW := Lib.hid hw
    clear hw
    go_wp2_with fail
    refine (playOf _ _ _ _ _ _ _ _ _ _ _ _ z.1 z.2 (fullL z.1 z.2 who p) q v _ _ (Nat.le_refl _) ho4.reads.ri ho4.reads.rii hoF.reads hoQ.reads HF.out HAR.out HFF.out HQ.out hv).mono ?_; rintro e w5 ⟨v5, v6, st, lp, rfl, hpl, hlen, ho5, ho6, hb5⟩
    obtain ⟨A5, c5, rfl⟩ := ho5.form
    obtain ⟨A6, c6, rfl⟩ := ho6.form
    have bR5 := bR.below hb5 bR.lt
    have hcc5 := hcc.then_below hb5 hcc.size
    have hd5 := hd4.on hb5
    have hbB : Below w5.heap.size w5 (w5.alloc (.cells #[.slice A5 st.length c5, .slice A6 lp.length c6] 41)) := below_alloc (Nat.le_refl _) (Below.refl _ _)
    have bRB := bR5.below hbB bR5.lt
    have bN := Box.new w5 41 #[.slice A5 st.length c5, .slice A6 lp.length c6]
    have m0 := bRB.cell 0; have m1 := bRB.cell 1; have f0 := bRB.hot 0; have f1 := bRB.hot 1
    simp only [List.getElem?_toArray, List.getElem?_cons_zero, List.getElem?_cons_succ] at m0 m1
    have ch : Chg (fun y => y = w.heap.size + 1) (w5.alloc (.cells #[.slice A5 st.length c5, .slice A6 lp.length c6] 41)) (((w5.alloc (.cells #[.slice A5 st.length c5, .slice A6 lp.length c6] 41)).setCell ⟨w.heap.size + 1, 0, none⟩ (.slice A5 st.length c5)).setCell ⟨w.heap.size + 1, 1, none⟩ (.slice A6 lp.length c6)) := (Chg.set (w := (w5.alloc (.cells #[.slice A5 st.length c5, .slice A6 lp.length c6] 41))) ⟨w.heap.size + 1, 0, none⟩ (.slice A5 st.length c5)).trans (Chg.set ⟨w.heap.size + 1, 1, none⟩ (.slice A6 lp.length c6)) (U := fun y => y = w.heap.size + 1) (fun _ h => h) (fun _ h => h)
    have bF : Box (((w5.alloc (.cells #[.slice A5 st.length c5, .slice A6 lp.length c6] 41)).setCell ⟨w.heap.size + 1, 0, none⟩ (.slice A5 st.length c5)).setCell ⟨w.heap.size + 1, 1, none⟩ (.slice A6 lp.length c6)) (w.heap.size + 1) 41 #[.slice A5 st.length c5, .slice A6 lp.length c6] := (bRB.set_ 0 (.slice A5 st.length c5)).set_ 1 (.slice A6 lp.length c6)
    have R0 := bF.cell 0; have R1 := bF.cell 1
    simp only [List.getElem?_toArray, List.getElem?_cons_zero, List.getElem?_cons_succ] at R0 R1
    have hs4 := hcc.size; have hRl := bR.lt
    have fo5 := ((ho5.below hbB).chg ch (fun y hy e => by have := (ho5.lt y hy).1; have e2 : y = w.heap.size + 1 := e; omega)).more (lo' := w.heap.size) (by omega)
    have fo6 := ((ho6.below hbB).chg ch (fun y hy e => by have := (ho6.lt y hy).1; have e2 : y = w.heap.size + 1 := e; omega)).more (lo' := w.heap.size) (by omega)
    have fd := (hd5.on hbB).chg ch (fun y hy => by omega)
    have fc := (hcc5.then_below hbB hcc5.size).push ch (fun y hy => .inr (by omega))
    have HPL := Lib.hid hpl; have HLEN := Lib.hid hlen
    clear hpl hlen
    go_wp2
    exact bodyPost_ret (v := .agg #[.slice A5 st.length c5, .slice A6 lp.length c6]) (by simp [results, Try.results30, go_sem, R0, R1]) rfl ⟨_, _, st, lp, q, rfl, HQR.out, by first | fail | (rw [if_neg (show ¬ who = 1 from HW.out)]; exact HPL.out), HLEN.out, fo5, fo6, fd, fc⟩

end Go.Proofs.Ytefjhkcafcchlaa
