/- StaysLevels, StaysWon: spec and impl. -/
import Derived.Test.YtfjhkjikfjpnpaaLevels2
import Derived.Test.YtfjhkjikfjpnpaaLevels3
import Derived.Test.YtfjhkjikfjpnpaaArenaL
namespace Go.Proofs.Ytfjhkjikfjpnpaa
open Go.RowKit

noncomputable def staysWonR (o : List Int) (n : List (List Int)) (who : Int) (s : List Int) : List Int := if okA o n who s = true then wonUp (levelsL o n who s) o.length else []
theorem staysWonR_len (z : ArD) (who : Int) (s : List Int) : (staysWonR z.1 z.2 who s).length ≤ 256 := by
  unfold staysWonR
  split
  · rename_i h
    have := (fineAr_of (okA_parts h).1).2.1
    exact Nat.le_trans (pick_len _ _ _) this
  · simp

set_option maxRecDepth 100000 in
set_option maxHeartbeats 400000 in
theorem specStaysLevels (s0 s1 : Value) (z : ArD) (who : Int) (C : Option Addr) (m d : Nat) (s : List Int) (w : World) (B : Nat) (hB : B ≤ w.heap.size) (ha : RAv w s0 s1 z.1 z.2) (hs : RI w C m d s) :
    Calls Try.prog 39 #[.agg #[s0, s1], .int .i64 who, .slice C m d] w fun e w' => ∃ v, e = .returned v ∧ OI 2 w' B v (levelsR z.1 z.2 who s) ∧ Below B w w' := by
  obtain ⟨A0, n0, c0, A1, n1, c1, rfl, rfl⟩ := ha.form
  have hr := ha.ri; have hrr := ha.rii
  have HL := Lib.hid hr.len
  have hba : Below w.heap.size w (w.alloc (.cells #[.slice A0 n0 c0, .slice A1 n1 c1] 42)) := below_alloc (Nat.le_refl _) (Below.refl _ _)
  have bx := Box.new w 42 #[.slice A0 n0 c0, .slice A1 n1 c1]
  have q0 := bx.d0; have q1 := bx.d1
  cases h : okA z.1 z.2 who s with
  | false =>
    have E := Lib.hid (show levelsR z.1 z.2 who s = [] from if_neg (by rw [h]; simp))
    go_enter Try.func39, Try.ntmps39
    go_wp2_with fail
    refine (l15Right _ _ _ _ _ _ _ _ _ _ _ _ _ _ _ (Nat.le_refl _) (hr.keep (keeps_below hba)) (hrr.keep (keeps_below hba)) (hs.keep (keeps_below hba))).mono ?_; rintro e w1 ⟨rfl, hb1'⟩
    have hb1 := below_then hb1' hba.size hba
    go_wp2
    go_ret
    exact ⟨_, rfl, by rw [E.out]; exact OI.empty (Nat.le_trans hB hb1.size), below_alloc hB (hb1.mono hB)⟩
  | true =>
    obtain ⟨h1, h2, h3⟩ := okA_parts h
    have E := Lib.hid (show levelsR z.1 z.2 who s = levelsL z.1 z.2 who s from if_pos h)
    have HF := Lib.hid (fineAr_of h1)
    clear h1 h2
    go_enter Try.func39, Try.ntmps39
    go_wp2_with fail
    refine (l15Right _ _ _ _ _ _ _ _ _ _ _ _ _ _ _ (Nat.le_refl _) (hr.keep (keeps_below hba)) (hrr.keep (keeps_below hba)) (hs.keep (keeps_below hba))).mono ?_; rintro e w1 ⟨rfl, hb1'⟩
    have hb1 := below_then hb1' hba.size hba
    have bx1 := bx.below hb1' bx.lt
    have q10 := bx1.d0; have q11 := bx1.d1
    go_wp2_with fail
    refine (l15Levels _ _ _ _ _ _ _ _ _ _ _ _ _ _ _ (Nat.le_refl _) (hr.keep (keeps_below hb1)) (hrr.keep (keeps_below hb1)) (hs.keep (keeps_below hb1)) HF.out h3).mono ?_; rintro e w2 ⟨v, rfl, ho, hb2⟩
    go_wp2
    go_ret
    exact ⟨_, rfl, by rw [E.out]; exact ho.more (Nat.le_trans hB hb1.size), (below_then hb2 hb1.size hb1).mono hB⟩

set_option maxRecDepth 100000 in
set_option maxHeartbeats 400000 in
theorem implStaysLevels (s0 s1 : Value) (z : ArD) (who : Int) (C : Option Addr) (m d : Nat) (s : List Int) (w : World) (B : Nat) (hB : B ≤ w.heap.size) (ha : RAv w s0 s1 z.1 z.2) (hs : RI w C m d s) :
    Calls Try.prog 36 #[.agg #[s0, s1], .int .i64 who, .slice C m d] w fun e w' => ∃ v, e = .returned v ∧ OI 2 w' B v (levelsR z.1 z.2 who s) ∧ Below B w w' := by
  obtain ⟨A0, n0, c0, A1, n1, c1, rfl, rfl⟩ := ha.form
  have hr := ha.ri; have hrr := ha.rii
  have HL := Lib.hid hr.len
  have hba : Below w.heap.size w (w.alloc (.cells #[.slice A0 n0 c0, .slice A1 n1 c1] 42)) := below_alloc (Nat.le_refl _) (Below.refl _ _)
  have bx := Box.new w 42 #[.slice A0 n0 c0, .slice A1 n1 c1]
  have q0 := bx.d0; have q1 := bx.d1
  cases h : okA z.1 z.2 who s with
  | false =>
    have E := Lib.hid (show levelsR z.1 z.2 who s = [] from if_neg (by rw [h]; simp))
    go_enter Try.func36, Try.ntmps36
    go_wp2_with fail
    refine (canAttract _ _ _ _ _ _ _ _ _ _ _ _ _ _ _ (Nat.le_refl _) (hr.keep (keeps_below hba)) (hrr.keep (keeps_below hba)) (hs.keep (keeps_below hba))).mono ?_; rintro e w1 ⟨rfl, hb1'⟩
    have hb1 := below_then hb1' hba.size hba
    go_wp2
    go_ret
    exact ⟨_, rfl, by rw [E.out]; exact OI.nil _ _ _, hb1.mono hB⟩
  | true =>
    obtain ⟨h1, h2, h3⟩ := okA_parts h
    have E := Lib.hid (show levelsR z.1 z.2 who s = levelsL z.1 z.2 who s from if_pos h)
    have HF := Lib.hid (fineAr_of h1)
    clear h1 h2
    go_enter Try.func36, Try.ntmps36
    go_wp2_with fail
    refine (canAttract _ _ _ _ _ _ _ _ _ _ _ _ _ _ _ (Nat.le_refl _) (hr.keep (keeps_below hba)) (hrr.keep (keeps_below hba)) (hs.keep (keeps_below hba))).mono ?_; rintro e w1 ⟨rfl, hb1'⟩
    have hb1 := below_then hb1' hba.size hba
    have bx1 := bx.below hb1' bx.lt
    have q10 := bx1.d0; have q11 := bx1.d1
    go_wp2_with fail
    refine (staysLevels _ _ _ _ _ _ _ _ _ _ _ _ _ _ _ (Nat.le_refl _) (hr.keep (keeps_below hb1)) (hrr.keep (keeps_below hb1)) (hs.keep (keeps_below hb1)) HF.out h3).mono ?_; rintro e w2 ⟨v, rfl, ho, hb2⟩
    go_wp2
    go_ret
    exact ⟨_, rfl, by rw [E.out]; exact ho.more (Nat.le_trans hB hb1.size), (below_then hb2 hb1.size hb1).mono hB⟩

set_option maxRecDepth 100000 in
set_option maxHeartbeats 400000 in
theorem implStaysWon (s0 s1 : Value) (z : ArD) (who : Int) (C : Option Addr) (m d : Nat) (s : List Int) (w : World) (B : Nat) (hB : B ≤ w.heap.size) (ha : RAv w s0 s1 z.1 z.2) (hs : RI w C m d s) :
    Calls Try.prog 63 #[.agg #[s0, s1], .int .i64 who, .slice C m d] w fun e w' => ∃ v, e = .returned v ∧ OI 2 w' B v (staysWonR z.1 z.2 who s) ∧ Below B w w' := by
  obtain ⟨A0, n0, c0, A1, n1, c1, rfl, rfl⟩ := ha.form
  have hr := ha.ri; have hrr := ha.rii
  have HL := Lib.hid hr.len
  have hba : Below w.heap.size w (w.alloc (.cells #[.slice A0 n0 c0, .slice A1 n1 c1] 42)) := below_alloc (Nat.le_refl _) (Below.refl _ _)
  have bx := Box.new w 42 #[.slice A0 n0 c0, .slice A1 n1 c1]
  have q0 := bx.d0; have q1 := bx.d1
  cases h : okA z.1 z.2 who s with
  | false =>
    have E := Lib.hid (show staysWonR z.1 z.2 who s = [] from if_neg (by rw [h]; simp))
    go_enter Try.func63, Try.ntmps63
    go_wp2_with fail
    refine (canAttract _ _ _ _ _ _ _ _ _ _ _ _ _ _ _ (Nat.le_refl _) (hr.keep (keeps_below hba)) (hrr.keep (keeps_below hba)) (hs.keep (keeps_below hba))).mono ?_; rintro e w1 ⟨rfl, hb1'⟩
    have hb1 := below_then hb1' hba.size hba
    go_wp2
    go_ret
    exact ⟨_, rfl, by rw [E.out]; exact OI.nil _ _ _, hb1.mono hB⟩
  | true =>
    obtain ⟨h1, h2, h3⟩ := okA_parts h
    have E := Lib.hid (show staysWonR z.1 z.2 who s = wonUp (levelsL z.1 z.2 who s) n0 from (if_pos h).trans (by rw [HL.out]))
    have HF := Lib.hid (fineAr_of h1)
    have hn0 : n0 ≤ 256 := by have := HF.out.2.1; rw [HL.out] at this; omega
    have hll : (levelsL z.1 z.2 who s).length = n0 := by rw [levelsL_len, HL.out]
    clear h1 h2
    go_enter Try.func63, Try.ntmps63
    go_wp2_with fail
    refine (canAttract _ _ _ _ _ _ _ _ _ _ _ _ _ _ _ (Nat.le_refl _) (hr.keep (keeps_below hba)) (hrr.keep (keeps_below hba)) (hs.keep (keeps_below hba))).mono ?_; rintro e w1 ⟨rfl, hb1'⟩
    have hb1 := below_then hb1' hba.size hba
    have bx1 := bx.below hb1' bx.lt
    have q10 := bx1.d0; have q11 := bx1.d1
    have bxE := bx1.alloc (.cells #[] 2)
    have qE0 := bxE.d0; have qE1 := bxE.d1
    go_wp2_with fail
    clear qE0 qE1
    have hem := OI.empty (E := 2) (w := w1) (B := w.heap.size + 1) bx1.lt
    have hbE : Below w1.heap.size w1 (w1.alloc (.cells #[] 2)) := below_alloc (Nat.le_refl _) (Below.refl _ _)
    have hwE := below_then hbE hb1.size hb1
    refine (staysLevels _ _ _ _ _ _ _ _ _ _ _ _ _ _ _ (Nat.le_refl _) (hr.keep (keeps_below hwE)) (hrr.keep (keeps_below hwE)) (hs.keep (keeps_below hwE)) HF.out h3).mono ?_; rintro e w2 ⟨v, rfl, ho, hb2⟩
    have hw2 := below_then hb2 hwE.size hwE
    have hem2 := hem.below hb2
    have hz2 : w.heap.size + 1 ≤ w2.heap.size := by have := hb2.size; have := hbE.size; have := bx1.lt; omega
    have hlo : w.heap.size + 1 ≤ w1.heap.size := bx1.lt
    have hlo2 : (w1.alloc (.cells #[] 2)).heap.size = w1.heap.size + 1 := by simp
    have hb1s := hb2.size
    rw [hlo2] at ho
    obtain ⟨Av, cv, rfl⟩ := ho.form
    rw [hll] at ho ⊢
    have hrd := ho.reads
    have HLL := Lib.hid hll
    clear hll q0 q1 q10 q11 hba
    have bc := hrd.cap; have bt := hrd.top
    go_wp2
    go_loopw [7, 21] (fun x i wr => ∃ k : Nat, k ≤ n0 ∧ i = .int .i64 k ∧ OI 2 wr (w.heap.size + 1) x (wonUp (levelsL z.1 z.2 who s) k) ∧ (∀ b, x.ownBlock = some b → b = w1.heap.size ∨ w2.heap.size ≤ b) ∧ Chg (fun b => b = w1.heap.size) w2 wr) (fun _ i _ => n0 - (intOf i).toNat)
    case atStart => exact ⟨0, Nat.zero_le _, rfl, hem2, fun b hb => by have hb' : some (w1.heap.size) = some b := hb; injection hb' with e; exact .inl e.symm, Chg.refl _ _⟩
    case round =>
      obtain ⟨k, hk, rfl, hx, hxb, hch⟩ := hrel
      have hup : (wonUp (levelsL z.1 z.2 who s) k).length ≤ k := pick_len _ _ _
      have hsz := hch.size
      by_cases hlt : k < n0
      · have ho' := ho.chg hch (fun b hb hs => by have := (ho.lt b hb).1; omega)
        obtain ⟨bb, off, rfl, hc⟩ := ho'.reads.at_ hlt
        by_cases hp : 0 ≤ gi (levelsL z.1 z.2 who s) k
        · have HX := Lib.hid (show wonUp (levelsL z.1 z.2 who s) (k + 1) = wonUp (levelsL z.1 z.2 who s) k ++ [(k : Int)] from pick_yes (decide_eq_true hp))
          have hd : decide (0 ≤ gi (levelsL z.1 z.2 who s) k) = true := decide_eq_true hp
          go_wp2_with (refine wpList_pushI rfl (.tmp 28) (.tmp 30) rfl _ _ _ (wonUp (levelsL z.1 z.2 who s) k) rfl hx _ rfl (by omega) (by omega) ?_; intro v2 w2' ho2 hb2' hc2 hat2)
          go_roundw
          case rel => exact ⟨k + 1, by omega, by go_num, by rw [HX.out]; exact ho2, fun b hb => (hat2 b hb).elim (hxb b) (fun h => .inr (by omega)), hch.push hc2 hxb⟩
          case measure => simp [intOf]; omega
        · have HX := Lib.hid (show wonUp (levelsL z.1 z.2 who s) (k + 1) = wonUp (levelsL z.1 z.2 who s) k from pick_no (decide_eq_false hp))
          have hd : decide (0 ≤ gi (levelsL z.1 z.2 who s) k) = false := decide_eq_false hp
          go_wp2
          go_roundw
          case rel => exact ⟨k + 1, by omega, by go_num, by rw [HX.out]; exact hx, hxb, hch⟩
          case measure => simp [intOf]; omega
      · obtain rfl : k = n0 := by omega
        go_wp2
        go_ret
        exact ⟨_, rfl, by rw [E.out]; exact hx.more (by omega), (hw2.mono hB).trans (hch.below (by omega) (fun b hb => by omega))⟩

end Go.Proofs.Ytfjhkjikfjpnpaa
