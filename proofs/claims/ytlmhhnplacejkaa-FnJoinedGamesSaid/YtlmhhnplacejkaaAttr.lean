/- Attractors: AllOf, l3Ok, l3Attract, Attract, attract; ReachWon. -/
import Derived.Test.YtlmhhnplacejkaaRanks3
import Derived.Test.YtlmhhnplacejkaaArenaL
namespace Go.Proofs.Ytlmhhnplacejkaa
open Go.RowKit

theorem allL_mem {n : Nat} {i : Nat} (h : i < (allL n).length) : gi (allL n) i = (i : Int) := gi_all (by rwa [allL_len] at h)
theorem allL_set (n : Nat) : setB (allL n) (n : Int) = true := setB_true.2 fun i hi => by
  have h : i < n := by rwa [allL_len] at hi
  refine ⟨by rw [gi_all h]; omega, by rw [gi_all h]; omega, fun h0 => ?_⟩
  rw [gi_all h, gi_all (by omega)]
  omega
noncomputable def attrL (o : List Int) (n : List (List Int)) (who : Int) (inn goal : List Int) : List Int := wonUp (ranksL o n who inn goal) o.length
theorem wonUp_len (L : List Int) (k : Nat) : (wonUp L k).length ≤ k := pick_len _ _ _
noncomputable def attrR (o : List Int) (n : List (List Int)) (who : Int) (inn goal : List Int) : List Int := if (okA o n who inn && okA o n who goal) = true then attrL o n who inn goal else []
noncomputable def reachR (o : List Int) (n : List (List Int)) (who : Int) (goal : List Int) : List Int := if okA o n who goal = true then attrL o n who (allL o.length) goal else []
theorem reachR_len (z : ArD) (who : Int) (s : List Int) : (reachR z.1 z.2 who s).length ≤ 256 := by
  unfold reachR
  split
  · rename_i h
    have := (fineAr_of (okA_parts h).1).2.1
    exact Nat.le_trans (wonUp_len _ _) this
  · simp
theorem okA_all {o : List Int} {n : List (List Int)} {who : Int} {goal : List Int} (h : okA o n who goal = true) : okA o n who (allL o.length) = true := by
  obtain ⟨h1, h2, _⟩ := okA_parts h
  unfold okA
  rw [h1, h2, allL_set]; rfl

set_option maxRecDepth 100000 in
theorem specAllOf (n : Int) (w : World) (B : Nat) (hB : B ≤ w.heap.size) (h0 : 0 ≤ n) (h1 : n ≤ 256) :
    Calls Try.prog 88 #[.int .i64 n] w fun e w' => ∃ v, e = .returned v ∧ OI 2 w' B v (allL n.toNat) ∧ Below B w w' := by
  obtain ⟨N, rfl⟩ : ∃ N : Nat, n = (N : Int) := ⟨n.toNat, by omega⟩
  go_enter Try.func88, Try.ntmps88
  go_wp2
  go_loopw [3, 4] (fun v i wr => ∃ k : Nat, k ≤ N ∧ i = .int .i64 k ∧ OI 2 wr w.heap.size v (allL k) ∧ Below w.heap.size w wr) (fun _ i _ => N - (intOf i).toNat)
  case atStart => exact ⟨0, Nat.zero_le _, rfl, OI.empty (Nat.le_refl _), by repeat (first | with_reducible assumption | with_reducible exact Below.refl _ _ | with_reducible refine below_drewN ?_ _ | with_reducible refine Below.drew ?_ | with_reducible refine below_alloc (Nat.le_refl _) ?_)⟩
  case round =>
    obtain ⟨k, hk, rfl, ho, hbr⟩ := hrel
    have hup : (allL k).length ≤ k := pick_len _ _ _
    have hsz := hbr.size
    by_cases hlt : k < N
    · have HX := Lib.hid (allL_succ k)
      have hki : (k : Int) < (N : Int) := by omega
      go_wp2_with (at_builtin; refine wpList_pushI rfl (.tmp 15) (.tmp 17) rfl _ _ _ (allL k) rfl ho _ rfl (by omega) hsz ?_; intro v2 w2 ho2 hb2 hc2 hat2)
      go_roundw
      case rel => exact ⟨k + 1, by omega, by go_num, by rw [HX.out]; exact ho2, hbr.trans hb2⟩
      case measure => simp [intOf]; omega
    · obtain rfl : k = N := by omega
      go_wp2
      go_ret
      exact ⟨_, rfl, by rw [Int.toNat_natCast]; exact ho.more hB, hbr.mono hB⟩


theorem allOf (A0 A1 : Option Addr) (n0 c0 n1 c1 : Nat) (w : World) (B : Nat) (hB : B ≤ w.heap.size) (hn : n0 ≤ 256) :
    Calls Try.prog 68 #[.agg #[.slice A0 n0 c0, .slice A1 n1 c1]] w fun e w' => ∃ v, e = .returned v ∧ OI 2 w' B v (allL n0) ∧ Below B w w' := by
  have hba : Below w.heap.size w (w.alloc (.cells #[.slice A0 n0 c0, .slice A1 n1 c1] 30)) := below_alloc (Nat.le_refl _) (Below.refl _ _)
  have bx := Box.new w 30 #[.slice A0 n0 c0, .slice A1 n1 c1]
  have q0 := bx.d0; have q1 := bx.d1
  go_enter Try.func68, Try.ntmps68
  go_wp2_with fail
  refine (implSize _ _ _ _ _ _ _ _ (Nat.le_refl _) (by omega)).mono ?_; rintro e w0 ⟨rfl, hb0⟩
  have hw0 := below_then hb0 hba.size hba
  go_wp2_with fail
  refine (AllOf _ _ _ (Nat.le_refl _) (by omega) (by omega)).mono ?_; rintro e w1 ⟨v, rfl, ho, hb1⟩
  go_wp2
  go_ret
  exact ⟨_, rfl, ho.more (by have := hw0.size; omega), (below_then hb1 hw0.size hw0).mono hB⟩

set_option maxRecDepth 100000 in
set_option maxHeartbeats 400000 in
theorem l3Ok (A0 A1 C : Option Addr) (n0 c0 n1 c1 m d : Nat) (o : List Int) (n : List (List Int)) (who : Int) (s : List Int) (w : World) (B : Nat) (hB : B ≤ w.heap.size) (ha : RI w A0 n0 c0 o) (hb : RII w A1 n1 c1 n) (hs : RI w C m d s) :
    Calls Try.prog 146 #[.agg #[.slice A0 n0 c0, .slice A1 n1 c1], .int .i64 who, .slice C m d] w fun e w' => e = .returned (.bool (okA o n who s)) ∧ Below B w w' := by
  have b1 := ha.cap; have b2 := ha.top
  have HL := Lib.hid ha.len
  have hba : Below w.heap.size w (w.alloc (.cells #[.slice A0 n0 c0, .slice A1 n1 c1] 30)) := below_alloc (Nat.le_refl _) (Below.refl _ _)
  have bx := Box.new w 30 #[.slice A0 n0 c0, .slice A1 n1 c1]
  have q0 := bx.d0; have q1 := bx.d1
  cases h1 : arB o n with
  | false =>
    have E := Lib.hid (show okA o n who s = false by unfold okA; rw [h1]; rfl)
    go_enter Try.func146, Try.ntmps146
    go_wp2_with fail
    refine (specArenaOk _ _ _ _ _ _ _ _ _ _ (Nat.le_refl _) (ha.keep (keeps_below hba)) (hb.keep (keeps_below hba))).mono ?_; rintro e w1 ⟨rfl, hb1'⟩
    rw [h1]
    have hb1 := below_then hb1' hba.size hba
    go_wp2
    go_ret
    exact ⟨ret_b E.out.symm, hb1.mono hB⟩
  | true =>
    cases h2 : inR who 0 1 with
    | false =>
      have E := Lib.hid (show okA o n who s = false by unfold okA; rw [h1, h2]; rfl)
      go_enter Try.func146, Try.ntmps146
      go_wp2_with fail
      refine (specArenaOk _ _ _ _ _ _ _ _ _ _ (Nat.le_refl _) (ha.keep (keeps_below hba)) (hb.keep (keeps_below hba))).mono ?_; rintro e w1 ⟨rfl, hb1'⟩
      rw [h1]
      have hb1 := below_then hb1' hba.size hba
      have bx1 := bx.below hb1' bx.lt
      have q10 := bx1.d0; have q11 := bx1.d1
      go_wp2_with fail
      refine (l1In _ _ _ _).mono ?_; rintro e w2 ⟨rfl, hq2⟩
      rw [h2]
      have hb2 := below_qt hq2 hb1
      go_wp2
      go_ret
      exact ⟨ret_b E.out.symm, hb2.mono hB⟩
    | true =>
      have E := Lib.hid (show okA o n who s = setB s (n0 : Int) by unfold okA; rw [h1, h2, HL.out]; rfl)
      have hl := (fineAr_of h1).2.1
      rw [HL.out] at hl
      have HH1 := Lib.hid h1; have HH2 := Lib.hid h2
      clear h1 h2
      go_enter Try.func146, Try.ntmps146
      go_wp2_with fail
      refine (specArenaOk _ _ _ _ _ _ _ _ _ _ (Nat.le_refl _) (ha.keep (keeps_below hba)) (hb.keep (keeps_below hba))).mono ?_; rintro e w1 ⟨rfl, hb1'⟩
      rw [HH1.out]
      have hb1 := below_then hb1' hba.size hba
      have bx1 := bx.below hb1' bx.lt
      have q10 := bx1.d0; have q11 := bx1.d1
      go_wp2_with fail
      refine (l1In _ _ _ _).mono ?_; rintro e w2 ⟨rfl, hq2⟩
      rw [HH2.out]
      have hb2 := below_qt hq2 hb1
      have bx2 := bx1.below (below_qt hq2 (Below.refl _ _)) bx1.lt
      have q20 := bx2.d0; have q21 := bx2.d1
      go_wp2_with fail
      refine (l1Set _ _ _ _ _ _ (hs.keep (keeps_below hb2)) (by omega) (by omega)).mono ?_; rintro e w3 ⟨rfl, hq3⟩
      have hb3 := below_qt hq3 hb2
      go_wp2
      go_ret
      exact ⟨ret_b E.out.symm, hb3.mono hB⟩


set_option maxRecDepth 100000 in
set_option maxHeartbeats 800000 in
theorem l3Attract (A0 A1 C1 C2 : Option Addr) (n0 c0 n1 c1 k1 d1 k2 d2 : Nat) (o : List Int) (n : List (List Int)) (who : Int) (inn goal : List Int) (w : World) (B : Nat) (hB : B ≤ w.heap.size) (ha : RI w A0 n0 c0 o) (hb : RII w A1 n1 c1 n) (hi : RI w C1 k1 d1 inn) (hg : RI w C2 k2 d2 goal) (hf : fineAr o n) (hsi : setB inn o.length = true) (hsg : setB goal o.length = true) :
    Calls Try.prog 147 #[.agg #[.slice A0 n0 c0, .slice A1 n1 c1], .int .i64 who, .slice C1 k1 d1, .slice C2 k2 d2] w fun e w' => ∃ v, e = .returned v ∧ OI 2 w' B v (attrL o n who inn goal) ∧ Below B w w' := by
  have HL := Lib.hid ha.len
  have hn0 : n0 ≤ 256 := by have := hf.2.1; rw [HL.out] at this; omega
  have E := Lib.hid (show attrL o n who inn goal = wonUp (ranksL o n who inn goal) n0 by unfold attrL; rw [HL.out])
  have hll : (ranksL o n who inn goal).length = n0 := by rw [ranksL_len, HL.out]
  have hba : Below w.heap.size w (w.alloc (.cells #[.slice A0 n0 c0, .slice A1 n1 c1] 30)) := below_alloc (Nat.le_refl _) (Below.refl _ _)
  have bx := Box.new w 30 #[.slice A0 n0 c0, .slice A1 n1 c1]
  have q0 := bx.d0; have q1 := bx.d1
  go_enter Try.func147, Try.ntmps147
  go_wp2_with fail
  refine (l3Ranks _ _ _ _ _ _ _ _ _ _ _ _ _ _ _ _ _ _ _ (Nat.le_refl _) (ha.keep (keeps_below hba)) (hb.keep (keeps_below hba)) (hi.keep (keeps_below hba)) (hg.keep (keeps_below hba)) hf hsi hsg).mono ?_; rintro e w1 ⟨v, rfl, ho, hb1⟩
  have hw1 := below_then hb1 hba.size hba
  obtain ⟨Av, cv, rfl⟩ := ho.form
  rw [hll] at ho ⊢
  generalize ranksL o n who inn goal = L at *
  have hem := OI.empty (E := 2) (w := w1) (B := w.heap.size) hw1.size
  have hbe : Below w1.heap.size w1 (w1.alloc (.cells #[] 2)) := below_alloc (Nat.le_refl _) (Below.refl _ _)
  have ho0 := ho
  replace ho := (ho.below hbe)
  have hw2 := below_then hbe hw1.size hw1
  have bc := ho.reads.cap; have bt := ho.reads.top
  have hlt1 : ∀ b, (Value.slice Av n0 cv).ownBlock = some b → b < w1.heap.size := fun b hb => by
    have := (ho0.lt b hb).2; exact this
  have hz1 := hw1.size
  have hz2 : w1.heap.size + 1 ≤ (w1.alloc (.cells #[] 2)).heap.size := by simp
  have HLL := Lib.hid hll
  clear hll q0 q1 hba bx hb1 hw1
  go_wp2
  go_loopw [10, 11] (fun x i wr => ∃ k : Nat, k ≤ n0 ∧ i = .int .i64 k ∧ OI 2 wr w.heap.size x (wonUp L k) ∧ (∀ b, x.ownBlock = some b → b = w1.heap.size ∨ (w1.alloc (.cells #[] 2)).heap.size ≤ b) ∧ Chg (fun b => b = w1.heap.size) (w1.alloc (.cells #[] 2)) wr) (fun _ i _ => n0 - (intOf i).toNat)
  case atStart => exact ⟨0, Nat.zero_le _, rfl, hem, fun b hb => by have hb' : some (w1.heap.size) = some b := hb; injection hb' with e; exact .inl e.symm, Chg.refl _ _⟩
  case round =>
    obtain ⟨k, hk, rfl, hx, hxb, hch⟩ := hrel
    have hup := wonUp_len L k
    have hsz := hch.size
    by_cases hlt : k < n0
    · have ho' := ho.chg hch (fun b hb hs => by have := hlt1 b hb; have hs' : b = w1.heap.size := hs; omega)
      obtain ⟨bb, off, rfl, hc⟩ := ho'.reads.at_ hlt
      have hki : (k : Int) < (n0 : Int) := by omega
      by_cases hp : 0 ≤ gi L k
      · have HX := Lib.hid (show wonUp L (k + 1) = wonUp L k ++ [(k : Int)] from pick_yes (decide_eq_true hp))
        have hd : decide (0 ≤ gi L k) = true := decide_eq_true hp
        go_wp2_with (at_builtin; refine wpList_pushI rfl (.tmp 29) (.tmp 31) rfl _ _ _ (wonUp L k) rfl hx _ rfl (by omega) (by omega) ?_; intro v2 w2' ho2 hb2' hc2 hat2)
        go_roundw
        case rel => exact ⟨k + 1, by omega, by go_num, by rw [HX.out]; exact ho2, fun b hb => (hat2 b hb).elim (hxb b) (fun h => .inr (by omega)), hch.push hc2 hxb⟩
        case measure => simp [intOf]; omega
      · have HX := Lib.hid (show wonUp L (k + 1) = wonUp L k from pick_no (decide_eq_false hp))
        have hd : decide (0 ≤ gi L k) = false := decide_eq_false hp
        go_wp2
        go_roundw
        case rel => exact ⟨k + 1, by omega, by go_num, by rw [HX.out]; exact hx, hxb, hch⟩
        case measure => simp [intOf]; omega
    · obtain rfl : k = n0 := by omega
      go_wp2
      go_ret
      exact ⟨_, rfl, by rw [E.out]; exact hx.more (by omega), (hw2.mono hB).trans (hch.below (by omega) (fun b hb => by have : b = w1.heap.size := hb; omega))⟩


set_option maxRecDepth 100000 in
set_option maxHeartbeats 800000 in
theorem attract (A0 A1 C1 C2 : Option Addr) (n0 c0 n1 c1 k1 d1 k2 d2 : Nat) (o : List Int) (n : List (List Int)) (who : Int) (inn goal : List Int) (w : World) (B : Nat) (hB : B ≤ w.heap.size) (ha : RI w A0 n0 c0 o) (hb : RII w A1 n1 c1 n) (hi : RI w C1 k1 d1 inn) (hg : RI w C2 k2 d2 goal) (hf : fineAr o n) (hsi : setB inn o.length = true) (hsg : setB goal o.length = true) :
    Calls Try.prog 98 #[.agg #[.slice A0 n0 c0, .slice A1 n1 c1], .int .i64 who, .slice C1 k1 d1, .slice C2 k2 d2] w fun e w' => ∃ v, e = .returned v ∧ OI 2 w' B v (attrL o n who inn goal) ∧ Below B w w' := by
  have HL := Lib.hid ha.len
  have hn0 : n0 ≤ 256 := by have := hf.2.1; rw [HL.out] at this; omega
  have E := Lib.hid (show attrL o n who inn goal = wonUp (ranksL o n who inn goal) n0 by unfold attrL; rw [HL.out])
  have hll : (ranksL o n who inn goal).length = n0 := by rw [ranksL_len, HL.out]
  have hba : Below w.heap.size w ((w.alloc (.cells #[.slice A0 n0 c0, .slice A1 n1 c1] 30)).alloc (.cells #[] 2)) := below_alloc (Nat.le_refl _) (below_alloc (Nat.le_refl _) (Below.refl _ _))
  have bx := (Box.new w 30 #[.slice A0 n0 c0, .slice A1 n1 c1]).alloc (.cells #[] 2)
  have q0 := bx.d0; have q1 := bx.d1
  have hem0 : OI 2 ((w.alloc (.cells #[.slice A0 n0 c0, .slice A1 n1 c1] 30)).alloc (.cells #[] 2)) w.heap.size (.slice (some ⟨w.heap.size + 1, 0, none⟩) 0 0) [] := by
    have := OI.empty (E := 2) (w := (w.alloc (.cells #[.slice A0 n0 c0, .slice A1 n1 c1] 30))) (B := w.heap.size) (by simp)
    simpa using this
  have hz0 : w.heap.size + 2 = ((w.alloc (.cells #[.slice A0 n0 c0, .slice A1 n1 c1] 30)).alloc (.cells #[] 2)).heap.size := by simp
  go_enter Try.func98, Try.ntmps98
  go_wp2_with fail
  generalize ((w.alloc (.cells #[.slice A0 n0 c0, .slice A1 n1 c1] 30)).alloc (.cells #[] 2)) = W at *
  replace hz0 : w.heap.size + 2 ≤ W.heap.size := by omega
  refine (ranksIn _ _ _ _ _ _ _ _ _ _ _ _ _ _ _ _ _ _ _ (Nat.le_refl _) (ha.keep (keeps_below hba)) (hb.keep (keeps_below hba)) (hi.keep (keeps_below hba)) (hg.keep (keeps_below hba)) hf hsi hsg).mono ?_; rintro e w1 ⟨v, rfl, ho, hb1⟩
  have hw2 := below_then hb1 hba.size hba
  obtain ⟨Av, cv, rfl⟩ := ho.form
  rw [hll] at ho ⊢
  generalize ranksL o n who inn goal = L at *
  have hem := hem0.below hb1
  have bc := ho.reads.cap; have bt := ho.reads.top
  have hz1 := hb1.size
  have HLL := Lib.hid hll
  clear hll q0 q1 hba bx hb1 hem0
  go_wp2
  go_loopw [9, 19] (fun x i wr => ∃ k : Nat, k ≤ n0 ∧ i = .int .i64 k ∧ OI 2 wr w.heap.size x (wonUp L k) ∧ (∀ b, x.ownBlock = some b → b = w.heap.size + 1 ∨ w1.heap.size ≤ b) ∧ Chg (fun b => b = w.heap.size + 1) w1 wr) (fun _ i _ => n0 - (intOf i).toNat)
  case atStart => exact ⟨0, Nat.zero_le _, rfl, hem, fun b hb => by have hb' : some (w.heap.size + 1) = some b := hb; injection hb' with e; exact .inl e.symm, Chg.refl _ _⟩
  case round =>
    obtain ⟨k, hk, rfl, hx, hxb, hch⟩ := hrel
    have hup := wonUp_len L k
    have hsz := hch.size
    by_cases hlt : k < n0
    · have ho' := ho.chg hch (fun b hb hs => by have := (ho.lt b hb).1; have := (ho.lt b hb).2; have hs' : b = w.heap.size + 1 := hs; omega)
      obtain ⟨bb, off, rfl, hc⟩ := ho'.reads.at_ hlt
      have hki : (k : Int) < (n0 : Int) := by omega
      by_cases hp : 0 ≤ gi L k
      · have HX := Lib.hid (show wonUp L (k + 1) = wonUp L k ++ [(k : Int)] from pick_yes (decide_eq_true hp))
        have hd : decide (0 ≤ gi L k) = true := decide_eq_true hp
        go_wp2_with (at_builtin; refine wpList_pushI rfl (.tmp 26) (.tmp 28) rfl _ _ _ (wonUp L k) rfl hx _ rfl (by omega) (by omega) ?_; intro v2 w2' ho2 hb2' hc2 hat2)
        go_roundw
        case rel => exact ⟨k + 1, by omega, by go_num, by rw [HX.out]; exact ho2, fun b hb => (hat2 b hb).elim (hxb b) (fun h => .inr (by omega)), hch.push hc2 hxb⟩
        case measure => simp [intOf]; omega
      · have HX := Lib.hid (show wonUp L (k + 1) = wonUp L k from pick_no (decide_eq_false hp))
        have hd : decide (0 ≤ gi L k) = false := decide_eq_false hp
        go_wp2
        go_roundw
        case rel => exact ⟨k + 1, by omega, by go_num, by rw [HX.out]; exact hx, hxb, hch⟩
        case measure => simp [intOf]; omega
    · obtain rfl : k = n0 := by omega
      go_wp2
      go_ret
      exact ⟨_, rfl, by rw [E.out]; exact hx.more (by omega), (hw2.mono hB).trans (hch.below (by omega) (fun b hb => by have : b = w.heap.size + 1 := hb; omega))⟩


theorem attrR_no {o : List Int} {n : List (List Int)} {who : Int} {inn goal : List Int} (h : (okA o n who inn && okA o n who goal) = false) : attrR o n who inn goal = [] := by unfold attrR; rw [if_neg (by rw [h]; decide)]
set_option maxRecDepth 100000 in
set_option maxHeartbeats 400000 in
theorem specAttract (A0 A1 C1 C2 : Option Addr) (n0 c0 n1 c1 k1 d1 k2 d2 : Nat) (o : List Int) (n : List (List Int)) (who : Int) (inn goal : List Int) (w : World) (B : Nat) (hB : B ≤ w.heap.size) (ha : RI w A0 n0 c0 o) (hb : RII w A1 n1 c1 n) (hi : RI w C1 k1 d1 inn) (hg : RI w C2 k2 d2 goal) :
    Calls Try.prog 87 #[.agg #[.slice A0 n0 c0, .slice A1 n1 c1], .int .i64 who, .slice C1 k1 d1, .slice C2 k2 d2] w fun e w' => ∃ v, e = .returned v ∧ OI 2 w' B v (attrR o n who inn goal) ∧ Below B w w' := by
  have hba : Below w.heap.size w (w.alloc (.cells #[.slice A0 n0 c0, .slice A1 n1 c1] 30)) := below_alloc (Nat.le_refl _) (Below.refl _ _)
  have bx := Box.new w 30 #[.slice A0 n0 c0, .slice A1 n1 c1]
  have q0 := bx.d0; have q1 := bx.d1
  cases h1 : okA o n who inn with
  | false =>
    have E := Lib.hid (attrR_no (o := o) (n := n) (who := who) (inn := inn) (goal := goal) (by rw [h1]; rfl))
    go_enter Try.func87, Try.ntmps87
    go_wp2_with fail
    refine (l3Ok _ _ _ _ _ _ _ _ _ _ _ _ inn _ _ (Nat.le_refl _) (ha.keep (keeps_below hba)) (hb.keep (keeps_below hba)) (hi.keep (keeps_below hba))).mono ?_; rintro e w1 ⟨rfl, hb1⟩
    rw [h1]
    have hw1 := below_then hb1 hba.size hba
    go_wp2
    go_ret
    exact ⟨_, rfl, by rw [E.out]; exact OI.empty (Nat.le_trans hB hw1.size), below_alloc hB (hw1.mono hB)⟩
  | true =>
    have H1 := Lib.hid h1
    cases h2 : okA o n who goal with
    | false =>
      have E := Lib.hid (attrR_no (o := o) (n := n) (who := who) (inn := inn) (goal := goal) (by rw [h2, Bool.and_false]))
      have H2 := Lib.hid h2
      clear h1 h2
      go_enter Try.func87, Try.ntmps87
      go_wp2_with fail
      refine (l3Ok _ _ _ _ _ _ _ _ _ _ _ _ inn _ _ (Nat.le_refl _) (ha.keep (keeps_below hba)) (hb.keep (keeps_below hba)) (hi.keep (keeps_below hba))).mono ?_; rintro e w1 ⟨rfl, hb1⟩
      rw [H1.out]
      have hw1 := below_then hb1 hba.size hba
      have bx1 := bx.below hb1 bx.lt
      have q10 := bx1.d0; have q11 := bx1.d1
      go_wp2_with fail
      refine (l3Ok _ _ _ _ _ _ _ _ _ _ _ _ goal _ _ (Nat.le_refl _) (ha.keep (keeps_below hw1)) (hb.keep (keeps_below hw1)) (hg.keep (keeps_below hw1))).mono ?_; rintro e w2 ⟨rfl, hb2⟩
      rw [H2.out]
      have hw2 := below_then hb2 hw1.size hw1
      go_wp2
      go_ret
      exact ⟨_, rfl, by rw [E.out]; exact OI.empty (Nat.le_trans hB hw2.size), below_alloc hB (hw2.mono hB)⟩
    | true =>
      have E := Lib.hid (show attrR o n who inn goal = attrL o n who inn goal from if_pos (by rw [h1, h2]; rfl))
      obtain ⟨p1, _, p3⟩ := okA_parts h1
      obtain ⟨_, _, p4⟩ := okA_parts h2
      have HF := Lib.hid (fineAr_of p1)
      have HP3 := Lib.hid p3; have HP4 := Lib.hid p4
      have H2 := Lib.hid h2
      clear h1 h2 p1 p3 p4
      go_enter Try.func87, Try.ntmps87
      go_wp2_with fail
      refine (l3Ok _ _ _ _ _ _ _ _ _ _ _ _ inn _ _ (Nat.le_refl _) (ha.keep (keeps_below hba)) (hb.keep (keeps_below hba)) (hi.keep (keeps_below hba))).mono ?_; rintro e w1 ⟨rfl, hb1⟩
      rw [H1.out]
      have hw1 := below_then hb1 hba.size hba
      have bx1 := bx.below hb1 bx.lt
      have q10 := bx1.d0; have q11 := bx1.d1
      go_wp2_with fail
      refine (l3Ok _ _ _ _ _ _ _ _ _ _ _ _ goal _ _ (Nat.le_refl _) (ha.keep (keeps_below hw1)) (hb.keep (keeps_below hw1)) (hg.keep (keeps_below hw1))).mono ?_; rintro e w2 ⟨rfl, hb2⟩
      rw [H2.out]
      have hw2 := below_then hb2 hw1.size hw1
      have bx2 := bx1.below hb2 bx1.lt
      have q20 := bx2.d0; have q21 := bx2.d1
      go_wp2_with fail
      refine (l3Attract _ _ _ _ _ _ _ _ _ _ _ _ _ _ _ _ _ _ _ (Nat.le_refl _) (ha.keep (keeps_below hw2)) (hb.keep (keeps_below hw2)) (hi.keep (keeps_below hw2)) (hg.keep (keeps_below hw2)) HF.out HP3.out HP4.out).mono ?_; rintro e w3 ⟨v, rfl, ho, hb3⟩
      go_wp2
      go_ret
      exact ⟨_, rfl, by rw [E.out]; exact ho.more (Nat.le_trans hB hw2.size), (below_then hb3 hw2.size hw2).mono hB⟩

theorem attrR_yes {o : List Int} {n : List (List Int)} {who : Int} {inn goal : List Int} (h1 : okA o n who inn = true) (h2 : okA o n who goal = true) : attrR o n who inn goal = attrL o n who inn goal := if_pos (by rw [h1, h2]; rfl)


end Go.Proofs.Ytlmhhnplacejkaa
