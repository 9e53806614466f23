/- The priorities that occur, the vertices of a priority: priosIn, withPrio. -/
import Derived.Test.YtefjhkcafcchlaaParL
import Derived.Test.YtefjhkcafcchlaaPick
import Derived.Test.YtefjhkcafcchlaaSort
import Derived.Test.YtefjhkcafcchlaaGame
import Derived.Test.YtefjhkcafcchlaaAcc
namespace Go.Proofs.Ytefjhkcafcchlaa
open Go.RowKit

def askU (pr : List Int) (p : Int) (k : Nat) : List Int := pick (fun v => gi pr v == p) (fun v => (v : Int)) k
def giveU (pr : List Int) (p : Int) (k : Nat) : List Int := pick (fun v => decide (p < gi pr v) && gi pr v % 2 == 0) (fun v => (v : Int)) k
theorem askU_len (pr : List Int) (p : Int) (k : Nat) : (askU pr p k).length ≤ k := pick_len _ _ _
theorem giveU_len (pr : List Int) (p : Int) (k : Nat) : (giveU pr p k).length ≤ k := pick_len _ _ _
theorem askU_yes {pr : List Int} {p : Int} {k : Nat} (h : gi pr k = p) : askU pr p (k + 1) = askU pr p k ++ [(k : Int)] := pick_yes (by simp [h])
theorem askU_no {pr : List Int} {p : Int} {k : Nat} (h : ¬ gi pr k = p) : askU pr p (k + 1) = askU pr p k := pick_no (by simp [h])
theorem giveU_yes {pr : List Int} {p : Int} {k : Nat} (h : p < gi pr k) (h2 : gi pr k % 2 = 0) : giveU pr p (k + 1) = giveU pr p k ++ [(k : Int)] := pick_yes (by rw [decide_eq_true h, h2]; rfl)
theorem giveU_no1 {pr : List Int} {p : Int} {k : Nat} (h : ¬ p < gi pr k) : giveU pr p (k + 1) = giveU pr p k := pick_no (by rw [decide_eq_false h]; rfl)
theorem giveU_no2 {pr : List Int} {p : Int} {k : Nat} (h : ¬ gi pr k % 2 = 0) : giveU pr p (k + 1) = giveU pr p k := pick_no (by simp [h])

set_option maxRecDepth 100000 in
set_option maxHeartbeats 800000 in
theorem withPrio (s0 s1 s2 : Value) (g : ParD) (A : Option Addr) (m c : Nat) (p : Int) (w : World) (B : Nat) (hB : B ≤ w.heap.size) (hg : RPv w s0 s1 s2 g) (hi : RI w A m c (allL g.2.2.length)) (hm : g.2.2.length ≤ 256) :
    Calls Try.prog 136 #[.agg #[s0, s1, s2], .slice A m c, .int .i64 p] w fun e w' => ∃ v, e = .returned v ∧ OI 2 w' B v (askU g.2.2 p g.2.2.length) ∧ Below B w w' := by
  obtain ⟨A0, n0, c0, A1, n1, c1, A2, n2, c2, rfl, rfl, rfl⟩ := hg.form
  have hrp := hg.rp
  have b1 := hi.cap; have b2 := hi.top; have b3 := hrp.cap; have b4 := hrp.top
  have hmm : m = n2 := by rw [← hi.len, allL_len, hrp.len]
  subst hmm
  have HP := Lib.hid hrp.len
  have hm2 : m ≤ 256 := by rw [← hrp.len]; exact hm
  have hba : Below w.heap.size w ((w.alloc (.cells #[.slice A0 n0 c0, .slice A1 n1 c1, .slice A2 m c2] 44)).alloc (.cells #[] 2)) := below_alloc (Nat.le_refl _) (below_alloc (Nat.le_refl _) (Below.refl _ _))
  have bx := (Box.new w 44 #[.slice A0 n0 c0, .slice A1 n1 c1, .slice A2 m c2]).alloc (.cells #[] 2)
  have hem := OI.empty (E := 2) (w := w.alloc (.cells #[.slice A0 n0 c0, .slice A1 n1 c1, .slice A2 m c2] 44)) (B := w.heap.size + 1) (by simp)
  rw [show (w.alloc (.cells #[.slice A0 n0 c0, .slice A1 n1 c1, .slice A2 m c2] 44)).heap.size = w.heap.size + 1 by simp] at hem
  clear hm
  go_enter Try.func136, Try.ntmps136
  go_wp2
  go_loopw [7, 13] (fun u i wr => ∃ k : Nat, k ≤ m ∧ i = .int .i64 k ∧ OI 2 wr (w.heap.size + 1) u (askU g.2.2 p k) ∧ Box wr w.heap.size 44 #[.slice A0 n0 c0, .slice A1 n1 c1, .slice A2 m c2] ∧ Below w.heap.size w wr) (fun _ i _ => m - (intOf i).toNat)
  case atStart => exact ⟨0, Nat.zero_le _, rfl, hem, bx, hba⟩
  case round =>
    clear hem bx hba
    obtain ⟨k, hk, rfl, ho, bx, hb⟩ := hrel
    have hlen := askU_len g.2.2 p k
    have sz : w.heap.size + 1 ≤ wr.heap.size := bx.lt
    have q2 := bx.c2
    by_cases hlt : k < m
    · obtain ⟨bi, oi, rfl, hci⟩ := (hi.keep (keeps_below hb)).at_ hlt
      rw [gi_all (by rw [HP.out]; exact hlt)] at hci
      obtain ⟨bp, op, rfl, hcp⟩ := (hrp.keep (keeps_below hb)).at_ hlt
      have hki : (k : Int) < (m : Int) := by omega
      have hk0 : (0 : Int) ≤ (k : Int) := by omega
      by_cases hp : gi g.2.2 k = p
      · have X := Lib.hid (askU_yes hp)
        have e1 : (gi g.2.2 k == p) = true := by simp [hp]
        clear hp
        go_wp2_with (at_builtin; refine wpList_pushI rfl (.tmp 24) (.tmp 26) rfl _ (w.heap.size + 1) u7 (askU g.2.2 p k) (by rfl) ho _ (by rfl) (by omega) sz ?_; intro v2 w2 ho2 hb2 hc2 hat2)
        go_wp2
        go_roundw
        case rel => exact ⟨k + 1, by omega, by go_num, by rw [X.out]; exact ho2, bx.below hb2 (by omega), hb.trans (hb2.mono (by omega))⟩
        case measure => simp [intOf]; omega
      · have X := Lib.hid (askU_no hp)
        have e1 : (gi g.2.2 k == p) = false := by simp [hp]
        clear hp
        go_wp2
        go_roundw
        case rel => exact ⟨k + 1, by omega, by go_num, by rw [X.out]; exact ho, bx, hb⟩
        case measure => simp [intOf]; omega
    · obtain rfl : k = m := by omega
      go_wp2
      go_ret
      exact ⟨_, rfl, by rw [HP.out]; exact ho.more (by omega), hb.mono hB⟩

set_option maxRecDepth 100000 in
set_option maxHeartbeats 800000 in
theorem priosIn (s0 s1 s2 : Value) (g : ParD) (A : Option Addr) (m c : Nat) (w : World) (B : Nat) (hB : B ≤ w.heap.size) (hg : RPv w s0 s1 s2 g) (hi : RI w A m c (allL g.2.2.length)) (hm : g.2.2.length ≤ 256) (h1 : 1 ≤ g.2.2.length) :
    Calls Try.prog 135 #[.agg #[s0, s1, s2], .slice A m c] w fun e w' => ∃ v, e = .returned v ∧ OI 2 w' B v (compL (sortL g.2.2)) ∧ Below B w w' := by
  obtain ⟨A0, n0, c0, A1, n1, c1, A2, n2, c2, rfl, rfl, rfl⟩ := hg.form
  have hrp := hg.rp
  have b1 := hi.cap; have b2 := hi.top; have b3 := hrp.cap; have b4 := hrp.top
  have hmm : m = n2 := by rw [← hi.len, allL_len, hrp.len]
  subst hmm
  have HP := Lib.hid hrp.len
  have hm2 : m ≤ 256 := by rw [← hrp.len]; exact hm
  have hm1 : 1 ≤ m := by rw [← hrp.len]; exact h1
  have hba : Below w.heap.size w ((w.alloc (.cells #[.slice A0 n0 c0, .slice A1 n1 c1, .slice A2 m c2] 44)).alloc (.cells #[] 2)) := below_alloc (Nat.le_refl _) (below_alloc (Nat.le_refl _) (Below.refl _ _))
  have bx := (Box.new w 44 #[.slice A0 n0 c0, .slice A1 n1 c1, .slice A2 m c2]).alloc (.cells #[] 2)
  have hem := OI.empty (E := 2) (w := w.alloc (.cells #[.slice A0 n0 c0, .slice A1 n1 c1, .slice A2 m c2] 44)) (B := w.heap.size + 1) (by simp)
  rw [show (w.alloc (.cells #[.slice A0 n0 c0, .slice A1 n1 c1, .slice A2 m c2] 44)).heap.size = w.heap.size + 1 by simp] at hem
  clear hm h1
  go_enter Try.func135, Try.ntmps135
  go_wp2
  go_loopw [5, 11] (fun u i wr => ∃ k : Nat, k ≤ m ∧ i = .int .i64 k ∧ OI 2 wr (w.heap.size + 1) u (g.2.2.take k) ∧ Box wr w.heap.size 44 #[.slice A0 n0 c0, .slice A1 n1 c1, .slice A2 m c2] ∧ Below w.heap.size w wr) (fun _ i _ => m - (intOf i).toNat)
  case atStart => exact ⟨0, Nat.zero_le _, rfl, by rw [List.take_zero]; exact hem, bx, hba⟩
  case round =>
    clear hem bx hba
    obtain ⟨k, hk, rfl, ho, bx, hb⟩ := hrel
    have hlen : (g.2.2.take k).length ≤ k := List.length_take_le _ _
    have sz : w.heap.size + 1 ≤ wr.heap.size := bx.lt
    have q2 := bx.c2
    by_cases hlt : k < m
    · obtain ⟨bi, oi, rfl, hci⟩ := (hi.keep (keeps_below hb)).at_ hlt
      rw [gi_all (by rw [HP.out]; exact hlt)] at hci
      obtain ⟨bp, op, rfl, hcp⟩ := (hrp.keep (keeps_below hb)).at_ hlt
      have hki : (k : Int) < (m : Int) := by omega
      have hk0 : (0 : Int) ≤ (k : Int) := by omega
      have X := Lib.hid (take_gi (xs := g.2.2) (k := k) (by rw [HP.out]; exact hlt))
      go_wp2_with (at_builtin; refine wpList_pushI rfl (.tmp 15) (.tmp 21) rfl _ (w.heap.size + 1) u5 (g.2.2.take k) (by rfl) ho _ (by rfl) (by omega) sz ?_; intro v2 w2 ho2 hb2 hc2 hat2)
      go_wp2
      go_roundw
      case rel => exact ⟨k + 1, by omega, by go_num, by rw [X.out]; exact ho2, bx.below hb2 (by omega), hb.trans (hb2.mono (by omega))⟩
      case measure => simp [intOf]; omega
    · obtain rfl : k = m := by omega
      rw [List.take_of_length_le (by rw [HP.out]; exact Nat.le_refl _)] at ho
      obtain ⟨g1, c1', e1⟩ := ho.form2 (by rw [HP.out]; omega)
      have hzl : g.2.2.length ≤ 4194304 := by rw [HP.out]; omega
      subst e1
      have hg1 := (ho.lt g1 rfl).1
      have SL := Lib.hid (sortL_len g.2.2)
      clear hlen
      go_wp2_with fail
      refine (slicesSort _ ho hzl).mono ?_; rintro e w2 ⟨rfl, ho2, hc2⟩
      have hw2 : Below w.heap.size w w2 := hb.trans (hc2.below hb.size (fun x hx => by have h3 : x = g1 := hx; omega))
      have ho3 : OI 2 w2 (w.heap.size + 1) (.slice (some ⟨g1, 0, none⟩) (sortL g.2.2).length c1') (sortL g.2.2) := by rw [SL.out]; exact ho2
      go_wp2_with fail
      refine ((show ∀ w', OI 2 w' (w.heap.size + 1) (.slice (some ⟨g1, 0, none⟩) (sortL g.2.2).length c1') (sortL g.2.2) → Calls Try.prog 113 #[.slice (some ⟨g1, 0, none⟩) g.2.2.length c1'] w' fun e w1 => e = .returned (.slice (some ⟨g1, 0, none⟩) (compL (sortL g.2.2)).length c1') ∧ OI 2 w1 (w.heap.size + 1) (.slice (some ⟨g1, 0, none⟩) (compL (sortL g.2.2)).length c1') (compL (sortL g.2.2)) ∧ Chg (fun b => b = g1) w' w1 from fun w' h' => by have h2 := slicesCompact w' h'; rwa [SL.out] at h2) _ (by exact ho3)).mono ?_
      rintro e w3 ⟨rfl, ho4, hc3⟩
      go_wp2
      go_ret
      exact ⟨.slice (some ⟨g1, 0, none⟩) (compL (sortL g.2.2)).length c1', rfl, ho4.more (Nat.le_succ_of_le hB), (hw2.trans (hc3.below hw2.size (fun x hx => by have h3 : x = g1 := hx; omega))).mono hB⟩
end Go.Proofs.Ytefjhkcafcchlaa
