/- Attractors: AllOf, l3Ok, l3Attract, Attract, attract; ReachWon. -/
import Derived.Test.YtngadlpfheakiaaRanks
import Derived.Test.YtngadlpfheakiaaArenaL
namespace Go.Proofs.Ytngadlpfheakiaa
open Go.RowKit

theorem allL_set (n : Nat) : setB (allL n) (n : Int) = true := setB_true.2 fun i hi => by
  have h : i < n := by rwa [allL_len] at hi
  refine ⟨by rw [gi_all h]; omega, by rw [gi_all h]; omega, fun h0 => ?_⟩
  rw [gi_all h, gi_all (by omega)]
  omega
noncomputable def attrL (o : List Int) (n : List (List Int)) (who : Int) (inn goal : List Int) : List Int := wonUp (ranksL o n who inn goal) o.length
theorem wonUp_len (L : List Int) (k : Nat) : (wonUp L k).length ≤ k := pick_len _ _ _
theorem allOf (A0 A1 : Option Addr) (n0 c0 n1 c1 : Nat) (w : World) (B : Nat) (hB : B ≤ w.heap.size) (hn : n0 ≤ 256) :
    Calls Try.prog 51 #[.agg #[.slice A0 n0 c0, .slice A1 n1 c1]] w fun e w' => ∃ v, e = .returned v ∧ OI 2 w' B v (allL n0) ∧ Below B w w' := by
  have hba : Below w.heap.size w (w.alloc (.cells #[.slice A0 n0 c0, .slice A1 n1 c1] 30)) := below_alloc (Nat.le_refl _) (Below.refl _ _)
  have bx := Box.new w 30 #[.slice A0 n0 c0, .slice A1 n1 c1]
  have q0 := bx.d0; have q1 := bx.d1
  go_enter Try.func51, Try.ntmps51
  go_wp2_with fail
  refine (implSize _ _ _ _ _ _ _ _ (Nat.le_refl _) (by omega)).mono ?_; rintro e w0 ⟨rfl, hb0⟩
  have hw0 := below_then hb0 hba.size hba
  go_wp2_with fail
  refine (AllOf _ _ _ (Nat.le_refl _) (by omega) (by omega)).mono ?_; rintro e w1 ⟨v, rfl, ho, hb1⟩
  go_wp2
  go_ret
  exact ⟨_, rfl, ho.more (by have := hw0.size; omega), (below_then hb1 hw0.size hw0).mono hB⟩

set_option maxRecDepth 100000 in
set_option maxHeartbeats 800000 in
theorem attract (A0 A1 C1 C2 : Option Addr) (n0 c0 n1 c1 k1 d1 k2 d2 : Nat) (o : List Int) (n : List (List Int)) (who : Int) (inn goal : List Int) (w : World) (B : Nat) (hB : B ≤ w.heap.size) (ha : RI w A0 n0 c0 o) (hb : RII w A1 n1 c1 n) (hi : RI w C1 k1 d1 inn) (hg : RI w C2 k2 d2 goal) (hf : fineAr o n) (hsi : setB inn o.length = true) (hsg : setB goal o.length = true) :
    Calls Try.prog 112 #[.agg #[.slice A0 n0 c0, .slice A1 n1 c1], .int .i64 who, .slice C1 k1 d1, .slice C2 k2 d2] w fun e w' => ∃ v, e = .returned v ∧ OI 2 w' B v (attrL o n who inn goal) ∧ Below B w w' := by
  have HL := Lib.hid ha.len
  have hn0 : n0 ≤ 256 := by have := hf.2.1; rw [HL.out] at this; omega
  have E := Lib.hid (show attrL o n who inn goal = wonUp (ranksL o n who inn goal) n0 by unfold attrL; rw [HL.out])
  have hll : (ranksL o n who inn goal).length = n0 := by rw [ranksL_len, HL.out]
  have hba : Below w.heap.size w ((w.alloc (.cells #[.slice A0 n0 c0, .slice A1 n1 c1] 30)).alloc (.cells #[] 2)) := below_alloc (Nat.le_refl _) (below_alloc (Nat.le_refl _) (Below.refl _ _))
  have bx := (Box.new w 30 #[.slice A0 n0 c0, .slice A1 n1 c1]).alloc (.cells #[] 2)
  have q0 := bx.d0; have q1 := bx.d1
  have hem0 : OI 2 ((w.alloc (.cells #[.slice A0 n0 c0, .slice A1 n1 c1] 30)).alloc (.cells #[] 2)) w.heap.size (.slice (some ⟨w.heap.size + 1, 0, none⟩) 0 0) [] := by
    have := OI.empty (E := 2) (w := (w.alloc (.cells #[.slice A0 n0 c0, .slice A1 n1 c1] 30))) (B := w.heap.size) (by simp)
    simpa using this
  have hz0 : w.heap.size + 2 = ((w.alloc (.cells #[.slice A0 n0 c0, .slice A1 n1 c1] 30)).alloc (.cells #[] 2)).heap.size := by simp
  go_enter Try.func112, Try.ntmps112
  go_wp2_with fail
  generalize ((w.alloc (.cells #[.slice A0 n0 c0, .slice A1 n1 c1] 30)).alloc (.cells #[] 2)) = W at *
  replace hz0 : w.heap.size + 2 ≤ W.heap.size := by omega
  refine (ranksIn _ _ _ _ _ _ _ _ _ _ _ _ _ _ _ _ _ _ _ (Nat.le_refl _) (ha.keep (keeps_below hba)) (hb.keep (keeps_below hba)) (hi.keep (keeps_below hba)) (hg.keep (keeps_below hba)) hf hsi hsg).mono ?_; rintro e w1 ⟨v, rfl, ho, hb1⟩
  have hw2 := below_then hb1 hba.size hba
  obtain ⟨Av, cv, rfl⟩ := ho.form
  rw [hll] at ho ⊢
  generalize ranksL o n who inn goal = L at *
  have hem := hem0.below hb1
  have bc := ho.reads.cap; have bt := ho.reads.top
  have hz1 := hb1.size
  have HLL := Lib.hid hll
  clear hll q0 q1 hba bx hb1 hem0
  go_wp2
  go_loopw [9, 19] (fun x i wr => ∃ k : Nat, k ≤ n0 ∧ i = .int .i64 k ∧ OI 2 wr w.heap.size x (wonUp L k) ∧ (∀ b, x.ownBlock = some b → b = w.heap.size + 1 ∨ w1.heap.size ≤ b) ∧ Chg (fun b => b = w.heap.size + 1) w1 wr) (fun _ i _ => n0 - (intOf i).toNat)
  case atStart => exact ⟨0, Nat.zero_le _, rfl, hem, fun b hb => by have hb' : some (w.heap.size + 1) = some b := hb; injection hb' with e; exact .inl e.symm, Chg.refl _ _⟩
  case round =>
    obtain ⟨k, hk, rfl, hx, hxb, hch⟩ := hrel
    have hup := wonUp_len L k
    have hsz := hch.size
    by_cases hlt : k < n0
    · have ho' := ho.chg hch (fun b hb hs => by have := (ho.lt b hb).1; have := (ho.lt b hb).2; have hs' : b = w.heap.size + 1 := hs; omega)
      obtain ⟨bb, off, rfl, hc⟩ := ho'.reads.at_ hlt
      have hki : (k : Int) < (n0 : Int) := by omega
      by_cases hp : 0 ≤ gi L k
      · have HX := Lib.hid (show wonUp L (k + 1) = wonUp L k ++ [(k : Int)] from pick_yes (decide_eq_true hp))
        have hd : decide (0 ≤ gi L k) = true := decide_eq_true hp
        go_wp2_with (at_builtin; refine wpList_pushI rfl (.tmp 26) (.tmp 28) rfl _ _ _ (wonUp L k) rfl hx _ rfl (by omega) (by omega) ?_; intro v2 w2' ho2 hb2' hc2 hat2)
        go_roundw
        case rel => exact ⟨k + 1, by omega, by go_num, by rw [HX.out]; exact ho2, fun b hb => (hat2 b hb).elim (hxb b) (fun h => .inr (by omega)), hch.push hc2 hxb⟩
        case measure => simp [intOf]; omega
      · have HX := Lib.hid (show wonUp L (k + 1) = wonUp L k from pick_no (decide_eq_false hp))
        have hd : decide (0 ≤ gi L k) = false := decide_eq_false hp
        go_wp2
        go_roundw
        case rel => exact ⟨k + 1, by omega, by go_num, by rw [HX.out]; exact hx, hxb, hch⟩
        case measure => simp [intOf]; omega
    · obtain rfl : k = n0 := by omega
      go_wp2
      go_ret
      exact ⟨_, rfl, by rw [E.out]; exact hx.more (by omega), (hw2.mono hB).trans (hch.below (by omega) (fun b hb => by have : b = w.heap.size + 1 := hb; omega))⟩


end Go.Proofs.Ytngadlpfheakiaa
