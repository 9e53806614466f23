/- The priorities that occur, the vertices of a priority: priosIn, withPrio. ParityPairs, spec and impl. ParityPairs, impl. -/
import Derived.Test.YtlmhhnplacejkaaParL
import Derived.Test.YtlmhhnplacejkaaPick
import Derived.Test.YtlmhhnplacejkaaSort
import Derived.Test.YtlmhhnplacejkaaGame
import Derived.Test.YtlmhhnplacejkaaAcc
import Derived.Test.YtlmhhnplacejkaaPairs5
import Derived.Test.YtlmhhnplacejkaaAttr
import Derived.Test.YtlmhhnplacejkaaArn
import Derived.Test.YtlmhhnplacejkaaHand
import Derived.Test.YtlmhhnplacejkaaPut
namespace Go.Proofs.Ytlmhhnplacejkaa
open Go.RowKit

def askU (pr : List Int) (p : Int) (k : Nat) : List Int := pick (fun v => gi pr v == p) (fun v => (v : Int)) k
def giveU (pr : List Int) (p : Int) (k : Nat) : List Int := pick (fun v => decide (p < gi pr v) && gi pr v % 2 == 0) (fun v => (v : Int)) k
theorem askU_len (pr : List Int) (p : Int) (k : Nat) : (askU pr p k).length ≤ k := pick_len _ _ _
theorem giveU_len (pr : List Int) (p : Int) (k : Nat) : (giveU pr p k).length ≤ k := pick_len _ _ _
theorem askU_yes {pr : List Int} {p : Int} {k : Nat} (h : gi pr k = p) : askU pr p (k + 1) = askU pr p k ++ [(k : Int)] := pick_yes (by simp [h])
theorem askU_no {pr : List Int} {p : Int} {k : Nat} (h : ¬ gi pr k = p) : askU pr p (k + 1) = askU pr p k := pick_no (by simp [h])
theorem giveU_yes {pr : List Int} {p : Int} {k : Nat} (h : p < gi pr k) (h2 : gi pr k % 2 = 0) : giveU pr p (k + 1) = giveU pr p k ++ [(k : Int)] := pick_yes (by rw [decide_eq_true h, h2]; rfl)
theorem giveU_no1 {pr : List Int} {p : Int} {k : Nat} (h : ¬ p < gi pr k) : giveU pr p (k + 1) = giveU pr p k := pick_no (by rw [decide_eq_false h]; rfl)
theorem giveU_no2 {pr : List Int} {p : Int} {k : Nat} (h : ¬ gi pr k % 2 = 0) : giveU pr p (k + 1) = giveU pr p k := pick_no (by simp [h])

set_option maxRecDepth 100000 in
set_option maxHeartbeats 800000 in
theorem withPrio (s0 s1 s2 : Value) (g : ParD) (A : Option Addr) (m c : Nat) (p : Int) (w : World) (B : Nat) (hB : B ≤ w.heap.size) (hg : RPv w s0 s1 s2 g) (hi : RI w A m c (allL g.2.2.length)) (hm : g.2.2.length ≤ 256) :
    Calls Try.prog 69 #[.agg #[s0, s1, s2], .slice A m c, .int .i64 p] w fun e w' => ∃ v, e = .returned v ∧ OI 2 w' B v (askU g.2.2 p g.2.2.length) ∧ Below B w w' := by
  obtain ⟨A0, n0, c0, A1, n1, c1, A2, n2, c2, rfl, rfl, rfl⟩ := hg.form
  have hrp := hg.rp
  have b1 := hi.cap; have b2 := hi.top; have b3 := hrp.cap; have b4 := hrp.top
  have hmm : m = n2 := by rw [← hi.len, allL_len, hrp.len]
  subst hmm
  have HP := Lib.hid hrp.len
  have hm2 : m ≤ 256 := by rw [← hrp.len]; exact hm
  have hba : Below w.heap.size w ((w.alloc (.cells #[.slice A0 n0 c0, .slice A1 n1 c1, .slice A2 m c2] 33)).alloc (.cells #[] 2)) := below_alloc (Nat.le_refl _) (below_alloc (Nat.le_refl _) (Below.refl _ _))
  have bx := (Box.new w 33 #[.slice A0 n0 c0, .slice A1 n1 c1, .slice A2 m c2]).alloc (.cells #[] 2)
  have hem := OI.empty (E := 2) (w := w.alloc (.cells #[.slice A0 n0 c0, .slice A1 n1 c1, .slice A2 m c2] 33)) (B := w.heap.size + 1) (by simp)
  rw [show (w.alloc (.cells #[.slice A0 n0 c0, .slice A1 n1 c1, .slice A2 m c2] 33)).heap.size = w.heap.size + 1 by simp] at hem
  clear hm
  go_enter Try.func69, Try.ntmps69
  go_wp2
  go_loopw [7, 13] (fun u i wr => ∃ k : Nat, k ≤ m ∧ i = .int .i64 k ∧ OI 2 wr (w.heap.size + 1) u (askU g.2.2 p k) ∧ Box wr w.heap.size 33 #[.slice A0 n0 c0, .slice A1 n1 c1, .slice A2 m c2] ∧ Below w.heap.size w wr) (fun _ i _ => m - (intOf i).toNat)
  case atStart => exact ⟨0, Nat.zero_le _, rfl, hem, bx, hba⟩
  case round =>
    clear hem bx hba
    obtain ⟨k, hk, rfl, ho, bx, hb⟩ := hrel
    have hlen := askU_len g.2.2 p k
    have sz : w.heap.size + 1 ≤ wr.heap.size := bx.lt
    have q2 := bx.c2
    by_cases hlt : k < m
    · obtain ⟨bi, oi, rfl, hci⟩ := (hi.keep (keeps_below hb)).at_ hlt
      rw [gi_all (by rw [HP.out]; exact hlt)] at hci
      obtain ⟨bp, op, rfl, hcp⟩ := (hrp.keep (keeps_below hb)).at_ hlt
      have hki : (k : Int) < (m : Int) := by omega
      have hk0 : (0 : Int) ≤ (k : Int) := by omega
      by_cases hp : gi g.2.2 k = p
      · have X := Lib.hid (askU_yes hp)
        have e1 : (gi g.2.2 k == p) = true := by simp [hp]
        clear hp
        go_wp2_with (at_builtin; refine wpList_pushI rfl (.tmp 24) (.tmp 26) rfl _ (w.heap.size + 1) u7 (askU g.2.2 p k) (by rfl) ho _ (by rfl) (by omega) sz ?_; intro v2 w2 ho2 hb2 hc2 hat2)
        go_wp2
        go_roundw
        case rel => exact ⟨k + 1, by omega, by go_num, by rw [X.out]; exact ho2, bx.below hb2 (by omega), hb.trans (hb2.mono (by omega))⟩
        case measure => simp [intOf]; omega
      · have X := Lib.hid (askU_no hp)
        have e1 : (gi g.2.2 k == p) = false := by simp [hp]
        clear hp
        go_wp2
        go_roundw
        case rel => exact ⟨k + 1, by omega, by go_num, by rw [X.out]; exact ho, bx, hb⟩
        case measure => simp [intOf]; omega
    · obtain rfl : k = m := by omega
      go_wp2
      go_ret
      exact ⟨_, rfl, by rw [HP.out]; exact ho.more (by omega), hb.mono hB⟩

set_option maxRecDepth 100000 in
set_option maxHeartbeats 800000 in
theorem priosIn (s0 s1 s2 : Value) (g : ParD) (A : Option Addr) (m c : Nat) (w : World) (B : Nat) (hB : B ≤ w.heap.size) (hg : RPv w s0 s1 s2 g) (hi : RI w A m c (allL g.2.2.length)) (hm : g.2.2.length ≤ 256) (h1 : 1 ≤ g.2.2.length) :
    Calls Try.prog 67 #[.agg #[s0, s1, s2], .slice A m c] w fun e w' => ∃ v, e = .returned v ∧ OI 2 w' B v (compL (sortL g.2.2)) ∧ Below B w w' := by
  obtain ⟨A0, n0, c0, A1, n1, c1, A2, n2, c2, rfl, rfl, rfl⟩ := hg.form
  have hrp := hg.rp
  have b1 := hi.cap; have b2 := hi.top; have b3 := hrp.cap; have b4 := hrp.top
  have hmm : m = n2 := by rw [← hi.len, allL_len, hrp.len]
  subst hmm
  have HP := Lib.hid hrp.len
  have hm2 : m ≤ 256 := by rw [← hrp.len]; exact hm
  have hm1 : 1 ≤ m := by rw [← hrp.len]; exact h1
  have hba : Below w.heap.size w ((w.alloc (.cells #[.slice A0 n0 c0, .slice A1 n1 c1, .slice A2 m c2] 33)).alloc (.cells #[] 2)) := below_alloc (Nat.le_refl _) (below_alloc (Nat.le_refl _) (Below.refl _ _))
  have bx := (Box.new w 33 #[.slice A0 n0 c0, .slice A1 n1 c1, .slice A2 m c2]).alloc (.cells #[] 2)
  have hem := OI.empty (E := 2) (w := w.alloc (.cells #[.slice A0 n0 c0, .slice A1 n1 c1, .slice A2 m c2] 33)) (B := w.heap.size + 1) (by simp)
  rw [show (w.alloc (.cells #[.slice A0 n0 c0, .slice A1 n1 c1, .slice A2 m c2] 33)).heap.size = w.heap.size + 1 by simp] at hem
  clear hm h1
  go_enter Try.func67, Try.ntmps67
  go_wp2
  go_loopw [5, 11] (fun u i wr => ∃ k : Nat, k ≤ m ∧ i = .int .i64 k ∧ OI 2 wr (w.heap.size + 1) u (g.2.2.take k) ∧ Box wr w.heap.size 33 #[.slice A0 n0 c0, .slice A1 n1 c1, .slice A2 m c2] ∧ Below w.heap.size w wr) (fun _ i _ => m - (intOf i).toNat)
  case atStart => exact ⟨0, Nat.zero_le _, rfl, by rw [List.take_zero]; exact hem, bx, hba⟩
  case round =>
    clear hem bx hba
    obtain ⟨k, hk, rfl, ho, bx, hb⟩ := hrel
    have hlen : (g.2.2.take k).length ≤ k := List.length_take_le _ _
    have sz : w.heap.size + 1 ≤ wr.heap.size := bx.lt
    have q2 := bx.c2
    by_cases hlt : k < m
    · obtain ⟨bi, oi, rfl, hci⟩ := (hi.keep (keeps_below hb)).at_ hlt
      rw [gi_all (by rw [HP.out]; exact hlt)] at hci
      obtain ⟨bp, op, rfl, hcp⟩ := (hrp.keep (keeps_below hb)).at_ hlt
      have hki : (k : Int) < (m : Int) := by omega
      have hk0 : (0 : Int) ≤ (k : Int) := by omega
      have X := Lib.hid (take_gi (xs := g.2.2) (k := k) (by rw [HP.out]; exact hlt))
      go_wp2_with (at_builtin; refine wpList_pushI rfl (.tmp 15) (.tmp 21) rfl _ (w.heap.size + 1) u5 (g.2.2.take k) (by rfl) ho _ (by rfl) (by omega) sz ?_; intro v2 w2 ho2 hb2 hc2 hat2)
      go_wp2
      go_roundw
      case rel => exact ⟨k + 1, by omega, by go_num, by rw [X.out]; exact ho2, bx.below hb2 (by omega), hb.trans (hb2.mono (by omega))⟩
      case measure => simp [intOf]; omega
    · obtain rfl : k = m := by omega
      rw [List.take_of_length_le (by rw [HP.out]; exact Nat.le_refl _)] at ho
      obtain ⟨g1, c1', e1⟩ := ho.form2 (by rw [HP.out]; omega)
      have hzl : g.2.2.length ≤ 4194304 := by rw [HP.out]; omega
      subst e1
      have hg1 := (ho.lt g1 rfl).1
      have SL := Lib.hid (sortL_len g.2.2)
      clear hlen
      go_wp2_with fail
      refine (slicesSort _ ho hzl).mono ?_; rintro e w2 ⟨rfl, ho2, hc2⟩
      have hw2 : Below w.heap.size w w2 := hb.trans (hc2.below hb.size (fun x hx => by have h3 : x = g1 := hx; omega))
      have ho3 : OI 2 w2 (w.heap.size + 1) (.slice (some ⟨g1, 0, none⟩) (sortL g.2.2).length c1') (sortL g.2.2) := by rw [SL.out]; exact ho2
      go_wp2_with fail
      refine ((show ∀ w', OI 2 w' (w.heap.size + 1) (.slice (some ⟨g1, 0, none⟩) (sortL g.2.2).length c1') (sortL g.2.2) → Calls Try.prog 141 #[.slice (some ⟨g1, 0, none⟩) g.2.2.length c1'] w' fun e w1 => e = .returned (.slice (some ⟨g1, 0, none⟩) (compL (sortL g.2.2)).length c1') ∧ OI 2 w1 (w.heap.size + 1) (.slice (some ⟨g1, 0, none⟩) (compL (sortL g.2.2)).length c1') (compL (sortL g.2.2)) ∧ Chg (fun b => b = g1) w' w1 from fun w' h' => by have h2 := slicesCompact w' h'; rwa [SL.out] at h2) _ (by exact ho3)).mono ?_
      rintro e w3 ⟨rfl, ho4, hc3⟩
      go_wp2
      go_ret
      exact ⟨.slice (some ⟨g1, 0, none⟩) (compL (sortL g.2.2)).length c1', rfl, ho4.more (Nat.le_succ_of_le hB), (hw2.trans (hc3.below hw2.size (fun x hx => by have h3 : x = g1 := hx; omega))).mono hB⟩
end Go.Proofs.Ytlmhhnplacejkaa
namespace Go.Proofs.Ytlmhhnplacejkaa
open Go.RowKit

/-- the pair of a priority; the reference's way over the odd ones; the program's over those that occur -/
def pairOf (pr : List Int) (p : Int) : PairD := (askU pr p pr.length, giveU pr p pr.length)
def ppS (pr : List Int) : Nat → List PairD
  | 0 => []
  | k + 1 => if 0 < (askU pr (2 * (k : Int) + 1) pr.length).length then ppS pr k ++ [pairOf pr (2 * (k : Int) + 1)] else ppS pr k
def ppI (pr qs : List Int) : Nat → List PairD
  | 0 => []
  | k + 1 => if gi qs k % 2 = 0 then ppI pr qs k else ppI pr qs k ++ [pairOf pr (gi qs k)]
theorem ppS_yes {pr : List Int} {k : Nat} (h : 0 < (askU pr (2 * (k : Int) + 1) pr.length).length) : ppS pr (k + 1) = ppS pr k ++ [pairOf pr (2 * (k : Int) + 1)] := by rw [ppS, if_pos h]
theorem ppS_no {pr : List Int} {k : Nat} (h : ¬ 0 < (askU pr (2 * (k : Int) + 1) pr.length).length) : ppS pr (k + 1) = ppS pr k := by rw [ppS, if_neg h]
theorem ppI_yes {pr qs : List Int} {k : Nat} (h : ¬ gi qs k % 2 = 0) : ppI pr qs (k + 1) = ppI pr qs k ++ [pairOf pr (gi qs k)] := by rw [ppI, if_neg h]
theorem ppI_no {pr qs : List Int} {k : Nat} (h : gi qs k % 2 = 0) : ppI pr qs (k + 1) = ppI pr qs k := by rw [ppI, if_pos h]
theorem ppS_len (pr : List Int) : ∀ k, (ppS pr k).length ≤ k
  | 0 => Nat.le_refl _
  | k + 1 => by
    have := ppS_len pr k
    by_cases h : 0 < (askU pr (2 * (k : Int) + 1) pr.length).length
    · rw [ppS_yes h]; simp; omega
    · rw [ppS_no h]; omega
theorem ppI_len (pr qs : List Int) : ∀ k, (ppI pr qs k).length ≤ k
  | 0 => Nat.le_refl _
  | k + 1 => by
    have := ppI_len pr qs k
    by_cases h : gi qs k % 2 = 0
    · rw [ppI_no h]; omega
    · rw [ppI_yes h]; simp; omega
theorem askU_pos {pr : List Int} {p : Int} : 0 < (askU pr p pr.length).length ↔ p ∈ pr := by
  rw [List.length_pos_iff_exists_mem]
  constructor
  · rintro ⟨x, hx⟩
    unfold askU at hx
    obtain ⟨i, hi, hp, _⟩ := mem_pick.1 hx
    have hp2 : gi pr i = p := by simpa using hp
    rw [← hp2]
    exact gi_mem hi
  · intro h
    obtain ⟨i, hi, e⟩ := mem_gi h
    exact ⟨(i : Int), mem_pick.2 ⟨i, hi, by simp [e], rfl⟩⟩
/-- both ways are over the odd priorities that occur, in order -/
theorem ppS_map (pr : List Int) : ∀ k, ∃ l : List Int, ppS pr k = l.map (pairOf pr) ∧ l.Pairwise (· < ·) ∧ ∀ x, x ∈ l ↔ (x ∈ pr ∧ x % 2 = 1 ∧ 1 ≤ x ∧ x < 2 * (k : Int) + 1)
  | 0 => ⟨[], rfl, by simp, fun x => by simp⟩
  | k + 1 => by
    obtain ⟨l, h1, h2, h3⟩ := ppS_map pr k
    by_cases h : 0 < (askU pr (2 * (k : Int) + 1) pr.length).length
    · refine ⟨l ++ [2 * (k : Int) + 1], by rw [ppS_yes h, h1, List.map_append]; rfl, List.pairwise_append.2 ⟨h2, by simp, fun a ha b hb => ?_⟩, fun x => ?_⟩
      · rw [List.mem_singleton] at hb
        subst hb
        exact ((h3 a).1 ha).2.2.2
      · rw [List.mem_append, List.mem_singleton, h3]
        constructor
        · rintro (⟨a, b, c, d⟩ | rfl)
          · exact ⟨a, b, c, by omega⟩
          · exact ⟨askU_pos.1 h, by omega, by omega, by omega⟩
        · rintro ⟨a, b, c, d⟩
          by_cases e : x = 2 * (k : Int) + 1
          · exact .inr e
          · exact .inl ⟨a, b, c, by omega⟩
    · refine ⟨l, by rw [ppS_no h, h1], h2, fun x => ?_⟩
      rw [h3]
      constructor
      · rintro ⟨a, b, c, d⟩; exact ⟨a, b, c, by omega⟩
      · rintro ⟨a, b, c, d⟩
        refine ⟨a, b, c, ?_⟩
        by_cases e : x = 2 * (k : Int) + 1
        · subst e
          exact absurd (askU_pos.2 a) h
        · omega
theorem ppI_map (pr qs : List Int) (hq : qs.Pairwise (· < ·)) : ∀ k, k ≤ qs.length → ∃ l : List Int, ppI pr qs k = l.map (pairOf pr) ∧ l.Pairwise (· < ·) ∧ ∀ x, x ∈ l ↔ (x ∈ qs.take k ∧ ¬ x % 2 = 0)
  | 0, _ => ⟨[], rfl, by simp, fun x => by simp⟩
  | k + 1, hk => by
    obtain ⟨l, h1, h2, h3⟩ := ppI_map pr qs hq k (by omega)
    have ht := take_gi (xs := qs) (k := k) (by omega)
    by_cases h : gi qs k % 2 = 0
    · refine ⟨l, by rw [ppI_no h, h1], h2, fun x => ?_⟩
      rw [h3, ht, List.mem_append, List.mem_singleton]
      constructor
      · rintro ⟨a, b⟩; exact ⟨.inl a, b⟩
      · rintro ⟨a | a, b⟩
        · exact ⟨a, b⟩
        · subst a; exact absurd h b
    · refine ⟨l ++ [gi qs k], by rw [ppI_yes h, h1, List.map_append]; rfl, List.pairwise_append.2 ⟨h2, by simp, fun a ha b hb => ?_⟩, fun x => ?_⟩
      · rw [List.mem_singleton] at hb
        subst hb
        obtain ⟨j, hj, rfl⟩ := List.getElem_of_mem ((h3 a).1 ha).1
        rw [List.length_take] at hj
        rw [List.getElem_take, gi_get (by omega)]
        exact List.pairwise_iff_getElem.1 hq j k (by omega) (by omega) (by omega)
      · rw [List.mem_append, List.mem_singleton, h3, ht, List.mem_append, List.mem_singleton]
        constructor
        · rintro (⟨a, b⟩ | rfl)
          · exact ⟨.inl a, b⟩
          · exact ⟨.inr rfl, h⟩
        · rintro ⟨a | a, b⟩
          · exact .inl ⟨a, b⟩
          · exact .inr a
theorem pp_same {pr qs : List Int} (hq : qs.Pairwise (· < ·)) (hm : ∀ x, x ∈ qs ↔ x ∈ pr) (hr : ∀ x, x ∈ pr → 0 ≤ x ∧ x ≤ 40) : ppI pr qs qs.length = ppS pr 20 := by
  obtain ⟨l, h1, h2, h3⟩ := ppS_map pr 20
  obtain ⟨l', k1, k2, k3⟩ := ppI_map pr qs hq qs.length (Nat.le_refl _)
  rw [h1, k1]
  congr 1
  refine asc_ext k2 h2 fun x => ?_
  rw [k3, List.take_length, hm, h3]
  constructor
  · rintro ⟨a, b⟩
    have := hr x a
    exact ⟨a, by omega, by omega, by omega⟩
  · rintro ⟨a, b, c, d⟩
    exact ⟨a, by omega⟩
noncomputable def okPP (g : ParD) : Bool := parB g && decide ((ppS g.2.2 20).length ≤ 4)
noncomputable def ppR (g : ParD) : List PairD := if okPP g = true then ppS g.2.2 20 else []
theorem okPP_no1 {g : ParD} (h : parB g = false) : okPP g = false := by unfold okPP; rw [h]; rfl
theorem okPP_no2 {g : ParD} (h : ¬ (ppS g.2.2 20).length ≤ 4) : okPP g = false := by unfold okPP; rw [decide_eq_false h, Bool.and_false]
theorem okPP_yes {g : ParD} (h : parB g = true) (h2 : (ppS g.2.2 20).length ≤ 4) : okPP g = true := by unfold okPP; rw [h, decide_eq_true h2]; rfl
theorem ppR_no {g : ParD} (h : okPP g = false) : ppR g = [] := by unfold ppR; rw [h]; rfl
theorem ppR_yes {g : ParD} (h : okPP g = true) : ppR g = ppS g.2.2 20 := by unfold ppR; rw [if_pos h]
theorem OPS.part {w w' : World} {lo : Nat} {v : Value} {ps : List PairD} (h : OPS w lo v ps) (hb : Below w.heap.size w w') : Chg (fun b => b < lo) w w' := (Chg.refl _ _).then_below hb (Nat.le_refl _)

end Go.Proofs.Ytlmhhnplacejkaa
namespace Go.Proofs.Ytlmhhnplacejkaa
open Go.RowKit

theorem OPS.ne {w : World} {lo lo' : Nat} {v u : Value} {ps : List PairD} {xs : List Int} (h : OPS w lo v ps) (k : OI 2 w lo' u xs) : ∀ b, u.ownBlock = some b → v.ownBlock ≠ some b := by
  obtain ⟨cs, h1, _, _⟩ := h
  exact own_ne k h1 (by decide)
theorem twoH_3_7 {P : Program} {Q : Exit → Act → World → Prop} {md : Region.Mode} {S : World → Prop} {fuel : Nat} {listed : Array Bool} {a : Act} {w : World} {o0 o1 o2 o3 o4 o5 o6 o7 : Oper} {r : List Oper} (hr : Region.ready md (List.toArray (o0 :: o1 :: o2 :: o3 :: o4 :: o5 :: o6 :: o7 :: r)) listed = [3, 7])
    (h1 : ∀ K' : Act → World → Prop, Shut (∀ a w, S w → (S w → wpAnyH P md (List.toArray (o0 :: o1 :: o2 :: o3 :: o4 :: o5 :: o6 :: o7 :: r)) Q S fuel (listed.setIfInBounds 3 true) a w) → K' a w) → if Region.wanted o3 (yielded (List.toArray (o0 :: o1 :: o2 :: o3 :: o4 :: o5 :: o6 :: o7 :: r)) a.tmps) = true then Oper.wp P o3 a w K' Q else K' (a.put o3.dst undef) w) (h2 : ∀ K' : Act → World → Prop, Shut (∀ a w, S w → (S w → wpAnyH P md (List.toArray (o0 :: o1 :: o2 :: o3 :: o4 :: o5 :: o6 :: o7 :: r)) Q S fuel (listed.setIfInBounds 7 true) a w) → K' a w) → if Region.wanted o7 (yielded (List.toArray (o0 :: o1 :: o2 :: o3 :: o4 :: o5 :: o6 :: o7 :: r)) a.tmps) = true then Oper.wp P o7 a w K' Q else K' (a.put o7.dst undef) w) : wpAnyH P md (List.toArray (o0 :: o1 :: o2 :: o3 :: o4 :: o5 :: o6 :: o7 :: r)) Q S (fuel + 1) listed a w :=
  wpAnyH_ready (rs := [3, 7]) hr (by simp) (AllReadyH.cons rfl h1 (AllReadyH.cons rfl h2 AllReadyH.nil))
theorem twoH_5_7 {P : Program} {Q : Exit → Act → World → Prop} {md : Region.Mode} {S : World → Prop} {fuel : Nat} {listed : Array Bool} {a : Act} {w : World} {o0 o1 o2 o3 o4 o5 o6 o7 : Oper} {r : List Oper} (hr : Region.ready md (List.toArray (o0 :: o1 :: o2 :: o3 :: o4 :: o5 :: o6 :: o7 :: r)) listed = [5, 7])
    (h1 : ∀ K' : Act → World → Prop, Shut (∀ a w, S w → (S w → wpAnyH P md (List.toArray (o0 :: o1 :: o2 :: o3 :: o4 :: o5 :: o6 :: o7 :: r)) Q S fuel (listed.setIfInBounds 5 true) a w) → K' a w) → if Region.wanted o5 (yielded (List.toArray (o0 :: o1 :: o2 :: o3 :: o4 :: o5 :: o6 :: o7 :: r)) a.tmps) = true then Oper.wp P o5 a w K' Q else K' (a.put o5.dst undef) w) (h2 : ∀ K' : Act → World → Prop, Shut (∀ a w, S w → (S w → wpAnyH P md (List.toArray (o0 :: o1 :: o2 :: o3 :: o4 :: o5 :: o6 :: o7 :: r)) Q S fuel (listed.setIfInBounds 7 true) a w) → K' a w) → if Region.wanted o7 (yielded (List.toArray (o0 :: o1 :: o2 :: o3 :: o4 :: o5 :: o6 :: o7 :: r)) a.tmps) = true then Oper.wp P o7 a w K' Q else K' (a.put o7.dst undef) w) : wpAnyH P md (List.toArray (o0 :: o1 :: o2 :: o3 :: o4 :: o5 :: o6 :: o7 :: r)) Q S (fuel + 1) listed a w :=
  wpAnyH_ready (rs := [5, 7]) hr (by simp) (AllReadyH.cons rfl h1 (AllReadyH.cons rfl h2 AllReadyH.nil))

set_option maxRecDepth 100000 in
set_option maxHeartbeats 3200000 in
theorem implParityPairs (s0 s1 s2 : Value) (g : ParD) (w : World) (B : Nat) (hB : B ≤ w.heap.size) (hg : RPv w s0 s1 s2 g) :
    Calls Try.prog 15 #[.agg #[s0, s1, s2]] w fun e w' => ∃ v, e = .returned (.tuple #[v, .bool (okPP g)]) ∧ OPS w' B v (ppR g) ∧ Below B w w' := by
  obtain ⟨A0, n0, c0, A1, n1, c1, A2, n2, c2, rfl, rfl, rfl⟩ := hg.form
  have hrp := hg.rp
  have b3 := hrp.cap; have b4 := hrp.top
  have HP := Lib.hid hrp.len
  have hba : Below w.heap.size w (w.alloc (.cells #[.slice A0 n0 c0, .slice A1 n1 c1, .slice A2 n2 c2] 33)) := below_alloc (Nat.le_refl _) (Below.refl _ _)
  have bx := Box.new w 33 #[.slice A0 n0 c0, .slice A1 n1 c1, .slice A2 n2 c2]
  have q0 := bx.c0; have q1 := bx.c1; have q2 := bx.c2
  cases hpb : parB g with
  | false =>
    have E := Lib.hid (okPP_no1 hpb)
    have HB := Lib.hid hpb
    clear hpb
    go_enter Try.func15, Try.ntmps15
    go_wp2_with fail
    refine (implParityOk _ _ _ g _ _ (Nat.le_refl _) (hg.keep (keeps_below hba))).mono ?_; rintro e w1 ⟨rfl, hb1⟩
    rw [HB.out]
    have hw1 := below_then hb1 hba.size hba
    go_wp2
    go_ret2
    exact ⟨.slice none 0 0, by rw [E.out]; rfl, by rw [ppR_no E.out]; exact OPS.nil _ _, hw1.mono hB⟩
  | true =>
    have HB := Lib.hid hpb
    obtain ⟨hf1, hf2, hf3⟩ := finePar_of hpb
    have HA01 := Lib.hid (show n0 = n2 by have h1 := hg.ri.len; rw [← h1, ← hf2, HP.out])
    have hn2 : n2 ≤ 256 := by have := hf1.2.1; rw [← hf2, HP.out] at this; exact this
    have hn0 : n0 ≤ 256 := by have := HA01.out; omega
    have hn1 : 1 ≤ n2 := by have := hf1.1; rw [← hf2, HP.out] at this; exact this
    have HR := Lib.hid hf3
    have HRM := Lib.hid (show ∀ x, x ∈ g.2.2 → 0 ≤ x ∧ x ≤ 40 from fun x hx => by
      obtain ⟨i, hi, e⟩ := mem_gi hx
      rw [← e]; exact hf3 i hi)
    clear hpb hf1 hf2 hf3
    go_enter Try.func15, Try.ntmps15
    go_wp2_with fail
    refine (implParityOk _ _ _ g _ _ (Nat.le_refl _) (hg.keep (keeps_below hba))).mono ?_; rintro e w1 ⟨rfl, hb1⟩
    rw [HB.out]
    have hw1 := below_then hb1 hba.size hba
    replace bx := bx.below hb1 bx.lt
    clear q0 q1 q2 hb1 hba
    have hsz1 : w.heap.size + 1 ≤ w1.heap.size := bx.lt
    have hem := OPS.empty (w := w1) (B := w.heap.size + 1) hsz1
    have hbE : Below w1.heap.size w1 (w1.alloc (.cells #[] 96)) := below_alloc (Nat.le_refl _) (Below.refl _ _)
    have bxE := bx.below hbE bx.lt
    have hwE := below_then hbE hw1.size hw1
    have q0 := bxE.c0; have q1 := bxE.c1; have q2 := bxE.c2
    have hszE : w.heap.size + 1 ≤ (w1.alloc (.cells #[] 96)).heap.size := bxE.lt
    go_wp2_with fail
    refine wp_region_held_drew (S := fun w' => w'.cell? ⟨w.heap.size, 0, none⟩ = some (.slice A0 n0 c0) ∧ w'.cell? ⟨w.heap.size, 1, none⟩ = some (.slice A1 n1 c1) ∧ w'.cell? ⟨w.heap.size, 2, none⟩ = some (.slice A2 n2 c2)) (by kernel_rfl) ⟨q0, q1, q2⟩ (fun hHeld => ?_)
    replace hwE : Below w.heap.size w (w1.alloc (.cells #[] 96)).drew := Below.drew hwE
    replace bxE : Box (w1.alloc (.cells #[] 96)).drew _ _ _ := bxE
    replace hszE : w.heap.size + 1 ≤ (w1.alloc (.cells #[] 96)).drew.heap.size := hszE
    have hemE : OPS (w1.alloc (.cells #[] 96)).drew (w.heap.size + 1) (.slice (some ⟨w1.heap.size, 0, none⟩) 0 0) [] := hem.below (Below.drew (Below.refl _ _))
    clear q0 q1 q2 hem hbE
    generalize (w1.alloc (.cells #[] 96)).drew = wE at *
    refine takeH0 (v := ?_) (by kernel_rfl) (by kernel_rfl) (by kernel_rfl) (fun _ _ _ h => h) hHeld (by rfl) ?_ ?_
    rotate_left; · (intro w hSw; (try dsimp only at hSw); go_simp; try with_reducible rfl)
    try simp only [Act.put, List.setIfInBounds_toArray, List.set_cons_zero, List.set_cons_succ]
    refine takeH1 (v := ?_) (by kernel_rfl) (by kernel_rfl) (by kernel_rfl) (fun _ _ _ h => h) hHeld (by rfl) ?_ ?_
    rotate_left; · (intro w hSw; (try dsimp only at hSw); go_simp; try with_reducible rfl)
    try simp only [Act.put, List.setIfInBounds_toArray, List.set_cons_zero, List.set_cons_succ]
    refine takeH2 (v := ?_) (by kernel_rfl) (by kernel_rfl) (by kernel_rfl) (fun _ _ _ h => h) hHeld (by rfl) ?_ ?_
    rotate_left; · (intro w hSw; (try dsimp only at hSw); go_simp; try with_reducible rfl)
    try simp only [Act.put, List.setIfInBounds_toArray, List.set_cons_zero, List.set_cons_succ]
    refine takeH6 (v := ?_) (by kernel_rfl) (by kernel_rfl) (by kernel_rfl) (fun _ _ _ h => h) hHeld (by rfl) ?_ ?_
    rotate_left; · (intro w hSw; (try dsimp only at hSw); go_simp; try with_reducible rfl)
    try simp only [Act.put, List.setIfInBounds_toArray, List.set_cons_zero, List.set_cons_succ]
    refine callH3 (by kernel_rfl) (fun K hK => ?_)
    go_simp
    go_at_call 68
    refine (allOf _ _ _ _ _ _ _ _ (Nat.le_refl _) (by omega)).mono ?_; rintro e wa ⟨va, rfl, hoa, hba'⟩
    obtain ⟨Aa, ca, rfl⟩ := hoa.form
    have hwa := below_then hba' hwE.size hwE
    have bxa := bxE.below hba' bxE.lt
    have hema := hemE.below hba'
    have sza := hba'.size
    rw [allL_len] at hoa ⊢
    go_wp2_with fail
    refine hK.out _ _ (⟨bxa.c0, bxa.c1, bxa.c2⟩) (fun hHeld => ?_)
    clear hK K
    try simp only [Act.put, List.setIfInBounds_toArray, List.set_cons_zero, List.set_cons_succ]
    refine callH4 (by kernel_rfl) (fun K hK => ?_)
    go_simp
    go_at_call 67
    refine (priosIn _ _ _ g _ _ _ _ _ (Nat.le_refl _) (hg.keep (keeps_below hwa)) (by rw [HP.out]; exact (by rw [HA01.out] at hoa ⊢; exact hoa.reads)) (by rw [HP.out]; omega) (by rw [HP.out]; omega)).mono ?_; rintro e wq ⟨vq, rfl, hoq, hbq⟩
    obtain ⟨Aq, cq, rfl⟩ := hoq.form
    have hwq := below_then hbq hwa.size hwa
    have bxq := bxa.below hbq bxa.lt
    have hemq := hema.below hbq
    go_wp2_with fail
    refine hK.out _ _ (⟨bxq.c0, bxq.c1, bxq.c2⟩) (fun hHeld => ?_)
    clear hK K
    try simp only [Act.put, List.setIfInBounds_toArray, List.set_cons_zero, List.set_cons_succ]
    refine takeH5 (v := ?_) (by kernel_rfl) (by kernel_rfl) (by kernel_rfl) (fun _ _ _ h => h) hHeld (by rfl) ?_ ?_
    rotate_left; · (intro w hSw; (try dsimp only at hSw); go_simp; try with_reducible rfl)
    try simp only [Act.put, List.setIfInBounds_toArray, List.set_cons_zero, List.set_cons_succ]
    refine wpAnyH_done (by kernel_rfl) ?_ _
    have hqo0 : OI 2 wq (w.heap.size + 1) (.slice Aq (compL (sortL g.2.2)).length cq) (compL (sortL g.2.2)) := hoq.more (by omega)
    have HQP := Lib.hid (show (compL (sortL g.2.2)).Pairwise (· < ·) from (comp_asc (sortL_pair _)).1)
    have HQM := Lib.hid (show ∀ x, x ∈ compL (sortL g.2.2) ↔ x ∈ g.2.2 from fun x => by rw [(comp_asc (sortL_pair _)).2, sortL_mem])
    have HSAME := Lib.hid (pp_same HQP.out HQM.out HRM.out)
    have hql : (compL (sortL g.2.2)).length ≤ 256 := Nat.le_trans (compL_len _) (by rw [sortL_len, HP.out]; exact hn2)
    clear hoa hoq hema hemE
    generalize compL (sortL g.2.2) = qs at *
    go_wp2
    go_loopw [4, 20] (fun v i wr => ∃ k : Nat, k ≤ qs.length ∧ i = .int .i64 k ∧ OPS wr (w.heap.size + 1) v (ppI g.2.2 qs k) ∧ Box wr w.heap.size 33 #[.slice A0 n0 c0, .slice A1 n1 c1, .slice A2 n2 c2] ∧ Below w.heap.size w wr ∧ OI 2 wr (w.heap.size + 1) (.slice Aq qs.length cq) qs) (fun _ i _ => qs.length - (intOf i).toNat)
    case atStart => exact ⟨0, Nat.zero_le _, rfl, hemq, bxq, hwq, hqo0⟩
    case round =>
      obtain ⟨wo, rfl⟩ : ∃ wo : World, wo = wr := ⟨_, rfl⟩
      clear hemq bxq hwq hqo0
      obtain ⟨k, hk, rfl, hops, bx, hw, hqo⟩ := hrel
      have hpl := ppI_len g.2.2 qs k
      have hsz : w.heap.size + 1 ≤ wo.heap.size := bx.lt
      obtain ⟨Ao, co, rfl⟩ := hops.form
      by_cases hlt : k < qs.length
      · obtain ⟨bqq, oqq, rfl, hcq⟩ := hqo.reads.at_ hlt
        have hki : (k : Int) < (qs.length : Int) := by omega
        have hk0 : (0 : Int) ≤ (k : Int) := by omega
        have hpm := HRM.out _ ((HQM.out _).1 (gi_mem hlt))
        have hp0 := hpm.1; have hp1 := hpm.2
        have HYES := Lib.hid (ppI_yes (pr := g.2.2) (qs := qs) (k := k))
        have HNO := Lib.hid (ppI_no (pr := g.2.2) (qs := qs) (k := k))
        have g0 := bx.c0; have g1 := bx.c1; have g2 := bx.c2
        clear hpm
        generalize hpv : gi qs k = p at *
        clear hpv
        by_cases hpe : p % 2 = 0
        · have e1 : (p % 2 == 0) = true := by simp [hpe]
          have XP := Lib.hid (HNO.out hpe)
          clear hpe
          go_wp2
          go_roundw
          case rel => exact ⟨k + 1, by omega, by go_num, by rw [XP.out]; exact hops, bx, hw, hqo⟩
          case measure => simp [intOf]; omega
        · have e1 : (p % 2 == 0) = false := by simp [hpe]
          have XP := Lib.hid (show ppI g.2.2 qs (k + 1) = ppI g.2.2 qs k ++ [(askU g.2.2 p n2, giveU g.2.2 p n2)] by
            have h := HYES.out hpe
            unfold pairOf at h
            rw [HP.out] at h
            exact h)
          clear hpe
          go_wp2_with fail
          refine wp_region_held_drew (S := fun w' => w'.cell? ⟨w.heap.size, 0, none⟩ = some (.slice A0 n0 c0) ∧ w'.cell? ⟨w.heap.size, 1, none⟩ = some (.slice A1 n1 c1) ∧ w'.cell? ⟨w.heap.size, 2, none⟩ = some (.slice A2 n2 c2)) (by kernel_rfl) ⟨g0, g1, g2⟩ (fun hHeld => ?_)
          have hwD : Below wo.heap.size wo wo.drew := Below.drew (Below.refl _ _)
          have bxD : Box wo.drew _ _ _ := bx
          have sD : wo.heap.size = wo.drew.heap.size := rfl
          clear g0 g1 g2
          generalize wo.drew = wD at *
          refine takeH0 (v := ?_) (by kernel_rfl) (by kernel_rfl) (by kernel_rfl) (fun _ _ _ h => h) hHeld (by rfl) ?_ ?_
          rotate_left; · (intro w hSw; (try dsimp only at hSw); go_simp; try with_reducible rfl)
          try simp only [Act.put, List.setIfInBounds_toArray, List.set_cons_zero, List.set_cons_succ]
          refine takeH1 (v := ?_) (by kernel_rfl) (by kernel_rfl) (by kernel_rfl) (fun _ _ _ h => h) hHeld (by rfl) ?_ ?_
          rotate_left; · (intro w hSw; (try dsimp only at hSw); go_simp; try with_reducible rfl)
          try simp only [Act.put, List.setIfInBounds_toArray, List.set_cons_zero, List.set_cons_succ]
          refine takeH2 (v := ?_) (by kernel_rfl) (by kernel_rfl) (by kernel_rfl) (fun _ _ _ h => h) hHeld (by rfl) ?_ ?_
          rotate_left; · (intro w hSw; (try dsimp only at hSw); go_simp; try with_reducible rfl)
          try simp only [Act.put, List.setIfInBounds_toArray, List.set_cons_zero, List.set_cons_succ]
          refine takeH4 (v := ?_) (by kernel_rfl) (by kernel_rfl) (by kernel_rfl) (fun _ _ _ h => h) hHeld (by rfl) ?_ ?_
          rotate_left; · (intro w hSw; (try dsimp only at hSw); go_simp; try with_reducible rfl)
          try simp only [Act.put, List.setIfInBounds_toArray, List.set_cons_zero, List.set_cons_succ]
          refine twoH_3_7 (by kernel_rfl) (fun K hK => ?_) (fun K hK => ?_)
          · go_simp
            go_at_call 68
            refine (allOf _ _ _ _ _ _ _ _ (Nat.le_refl _) (by omega)).mono ?_; rintro e wa ⟨va, rfl, hoa, hba'⟩
            obtain ⟨Al, cl, rfl⟩ := hoa.form
            rw [allL_len] at hoa ⊢
            have hwa : Below wo.heap.size wo wa := below_then hba' hwD.size hwD
            have bxa := bxD.below hba' bxD.lt
            have sa1 := hba'.size
            go_wp2_with fail
            refine hK.out _ _ (⟨bxa.c0, bxa.c1, bxa.c2⟩) (fun hHeld => ?_)
            clear hK K
            try simp only [Act.put, List.setIfInBounds_toArray, List.set_cons_zero, List.set_cons_succ]
            skip
            refine twoH_5_7 (by kernel_rfl) (fun K hK => ?_) (fun K hK => ?_)
            · go_simp
              go_at_call 69
              refine (withPrio _ _ _ g _ _ _ p _ _ (Nat.le_refl _) (hg.keep (keeps_below (below_then hwa hw.size hw))) (by rw [HP.out]; exact (by have h := hoa; rw [HA01.out] at h ⊢; exact h.reads)) (by rw [HP.out]; omega)).mono ?_; rintro e wp ⟨vp, rfl, hop, hbp⟩
              rw [HP.out] at hop
              obtain ⟨Aa, ca, rfl⟩ := hop.form
              have hwp : Below wo.heap.size wo wp := below_then hbp hwa.size hwa
              have bxp := bxa.below hbp bxa.lt
              have lp1 : wo.heap.size ≤ wa.heap.size := hwa.size
              go_wp2_with fail
              refine hK.out _ _ (⟨bxp.c0, bxp.c1, bxp.c2⟩) (fun hHeld => ?_)
              clear hK K
              try simp only [Act.put, List.setIfInBounds_toArray, List.set_cons_zero, List.set_cons_succ]
              skip
              refine takeH6 (v := ?_) (by kernel_rfl) (by kernel_rfl) (by kernel_rfl) (fun _ _ _ h => h) hHeld (by rfl) ?_ ?_
              rotate_left; · (intro w hSw; (try dsimp only at hSw); go_simp; try with_reducible rfl)
              try simp only [Act.put, List.setIfInBounds_toArray, List.set_cons_zero, List.set_cons_succ]
              have hbz : Below wo.heap.size wo (wp.alloc (.cells #[.slice none 0 0, .slice none 0 0] 96)) := below_alloc (Nat.le_refl _) hwp
              have bzC : Box (wp.alloc (.cells #[.slice none 0 0, .slice none 0 0] 96)) wp.heap.size 96 #[.slice none 0 0, .slice none 0 0] := Box.new _ _ _
              have bxC : Box (wp.alloc (.cells #[.slice none 0 0, .slice none 0 0] 96)) _ _ _ := bxp.alloc _
              have hopC := hop.below (below_alloc (o := (.cells #[.slice none 0 0, .slice none 0 0] 96)) (Nat.le_refl _) (Below.refl wp.heap.size wp))
              have sC := hbp.size
              refine callH7 (by kernel_rfl) (fun K hK => ?_)
              go_simp
              refine hK.out _ _ (⟨keepA bxp.c0, keepA bxp.c1, keepA bxp.c2⟩) (fun hHeld => ?_)
              clear hK K
              try simp only [Act.put, List.setIfInBounds_toArray, List.set_cons_zero, List.set_cons_succ]
              have fz0 := bzC.hot 0
              have fz1 := bzC.hot 1
              have cz0 := bzC.d0
              have cz1 := bzC.d1
              refine callH8 (by kernel_rfl) (fun K hK => ?_)
              go_simp
              refine hK.out _ _ (⟨keepA bxp.c0, keepA bxp.c1, keepA bxp.c2⟩) (fun hHeld => ?_)
              clear hK K
              try simp only [Act.put, List.setIfInBounds_toArray, List.set_cons_zero, List.set_cons_succ]
              refine wpAnyH_done (by kernel_rfl) ?_ _
              have bX : Box (wp.alloc (.cells #[.slice Aa (askU g.2.2 p n2).length ca, .slice none 0 0] 96)) wp.heap.size 96 #[.slice Aa (askU g.2.2 p n2).length ca, .slice none 0 0] := Box.new _ _ _
              have hlz : wo.heap.size ≤ wp.heap.size := by omega
              have hbF : Below wp.heap.size wp (wp.alloc (.cells #[.slice Aa (askU g.2.2 p n2).length ca, .slice none 0 0] 96)) := below_alloc (Nat.le_refl _) (Below.refl _ _)
              have hwz : Below wo.heap.size wo (wp.alloc (.cells #[.slice Aa (askU g.2.2 p n2).length ca, .slice none 0 0] 96)) := below_alloc (Nat.le_refl _) hwp
              have hop2 : OI 2 (wp.alloc (.cells #[.slice Aa (askU g.2.2 p n2).length ca, .slice none 0 0] 96)) wo.heap.size (.slice Aa (askU g.2.2 p n2).length ca) (askU g.2.2 p n2) := (hop.below hbF).more (by omega)
              have bxz : Box (wp.alloc (.cells #[.slice Aa (askU g.2.2 p n2).length ca, .slice none 0 0] 96)) w.heap.size 33 #[.slice A0 n0 c0, .slice A1 n1 c1, .slice A2 n2 c2] := bxp.below hbF bxp.lt
              have hne0 : ∀ y, (Value.slice Aa (askU g.2.2 p n2).length ca).ownBlock = some y → y ≠ wp.heap.size := fun y hy e => by have h7 := (hop.lt y hy).2; omega
              have hzl : wp.heap.size < (wp.alloc (.cells #[.slice Aa (askU g.2.2 p n2).length ca, .slice none 0 0] 96)).heap.size := bX.lt
              clear hbF
              generalize (wp.alloc (.cells #[.slice Aa (askU g.2.2 p n2).length ca, .slice none 0 0] 96)) = wz at *
              generalize wp.heap.size = bz at *
              have hbn0 : OI 2 wz (wo.heap.size) (.slice none 0 0) (giveU g.2.2 p 0) := OI.nil _ _ _
              go_wp2
              go_loopw [37] (fun i wr => ∃ (j : Nat) (u1 : Value), j ≤ n2 ∧ i = .int .i64 j ∧ Box wr bz 96 #[.slice Aa (askU g.2.2 p n2).length ca, u1] ∧ OI 2 wr wo.heap.size (.slice Aa (askU g.2.2 p n2).length ca) (askU g.2.2 p n2) ∧ OI 2 wr wo.heap.size u1 (giveU g.2.2 p j) ∧ Apart (.slice Aa (askU g.2.2 p n2).length ca) u1 ∧ (∀ y, u1.ownBlock = some y → y ≠ bz) ∧ Box wr w.heap.size 33 #[.slice A0 n0 c0, .slice A1 n1 c1, .slice A2 n2 c2] ∧ Below wo.heap.size wo wr) (fun i _ => n2 - (intOf i).toNat)
              case atStart => exact ⟨0, _, Nat.zero_le _, rfl, bX, hop2, hbn0, .symm (.inl rfl), (fun y hy => by cases hy), bxz, hwz⟩
              case round =>
                clear bX hop2 hbn0 bxz hwz hzl
                obtain ⟨j, u1, hj, rfl, bX, h0, h1, hap, hne1, bxr, hb⟩ := hrel
                obtain ⟨Ag, cg, rfl⟩ := h1.form
                have hla := askU_len g.2.2 p n2; have hlg := giveU_len g.2.2 p j
                have hs1 := hb.size; have hs2 := bX.lt
                by_cases hlt : j < n2
                · obtain ⟨bp, op, rfl, hcp0⟩ := hrp.at_ hlt
                  have hwr := below_then hb hw.size hw
                  have hcp := keeps_below hwr _ _ hcp0
                  have hji : (j : Int) < (n2 : Int) := by omega
                  have hj0 : (0 : Int) ≤ (j : Int) := by omega
                  have hpr := HR.out j (by rw [HP.out]; exact hlt)
                  have hpr0 := hpr.1; have hpr1 := hpr.2
                  have d0 := bX.d0; have d1 := bX.d1
                  have f0 := bX.hot 0; have f1 := bX.hot 1
                  by_cases hg1 : p < gi g.2.2 j
                  · have e2 : decide (p < gi g.2.2 j) = true := decide_eq_true hg1
                    by_cases hg2 : gi g.2.2 j % 2 = 0
                    · have XG := Lib.hid (giveU_yes hg1 hg2)
                      have e4 : (gi g.2.2 j % 2 == 0) = true := by simp [hg2]
                      clear hg2 hpr
                      go_wp2_with (at_builtin; refine wpList_pushI rfl (.tmp 51) (.tmp 53) rfl _ wo.heap.size _ (giveU g.2.2 p j) (by rfl) h1 _ (by rfl) (by omega) (by omega) ?_; intro v2 w2 ho2 hb2 hc2 hat2; obtain ⟨Av, cv, h1e⟩ := ho2.form; have h1f : v2 = .slice Av ((giveU g.2.2 p j).length + 1) cv := (by rw [h1e]; simp); clear h1e; subst h1f; have bX2 := bX.chg hc2 (fun e => hne1 _ e rfl); have f12 := bX2.hot 1; have d02 := bX2.d0; have d12 := bX2.d1)
                      go_wp2
                      go_roundw
                      case rel =>
                        have ch := Chg.set (w := w2) ⟨bz, 1, none⟩ (.slice Av ((giveU g.2.2 p j).length + 1) cv)
                        refine ⟨j + 1, .slice Av ((giveU g.2.2 p j).length + 1) cv, by omega, by go_num, bX2.set_ 1 _, ?_, ?_, ?_, ?_, ?_, ?_⟩
                        · exact (h0.chg hc2 (fun y hy hs => apart_not hap hy hs)).chg ch (fun y hy e => hne0 y hy e)
                        · rw [XG.out]; exact ho2.chg ch (fun y hy e => by
                            have h5 : y = bz := e
                            rcases hat2 y hy with h6 | h6
                            · exact hne1 y h6 h5
                            · omega)
                        · exact (apart_grow2 hap.symm hat2 (fun y hy => (h0.lt y hy).2)).symm
                        · intro y hy e
                          rcases hat2 y hy with h6 | h6
                          · exact hne1 y h6 e
                          · omega
                        · exact (bxr.chg hc2 (fun e => by have := (h1.lt _ e).1; have := bx.lt; omega)).chg ch (fun e => by have h5 : w.heap.size = bz := e; have := bx.lt; omega)
                        · exact (hb.trans hb2).trans (ch.below (by have := hb2.size; omega) (fun x hx => by have h5 : x = bz := hx; omega))
                      case measure => simp [intOf]; omega
                    · have XG := Lib.hid (giveU_no2 (p := p) hg2)
                      have e4 : (gi g.2.2 j % 2 == 0) = false := by simp [hg2]
                      clear hg2 hpr
                      go_wp2
                      go_roundw
                      case rel => exact ⟨j + 1, _, by omega, by go_num, bX, h0, by rw [XG.out]; exact h1, hap, hne1, bxr, hb⟩
                      case measure => simp [intOf]; omega
                  · have XG := Lib.hid (giveU_no1 (pr := g.2.2) (p := p) (k := j) hg1)
                    have e2 : decide (p < gi g.2.2 j) = false := decide_eq_false hg1
                    clear hpr
                    go_wp2
                    go_roundw
                    case rel => exact ⟨j + 1, _, by omega, by go_num, bX, h0, by rw [XG.out]; exact h1, hap, hne1, bxr, hb⟩
                    case measure => simp [intOf]; omega
                · obtain rfl : j = n2 := by omega
                  have hW : Chg (fun b => b < w.heap.size + 1) wo wr := (Chg.refl _ _).then_below hb (Nat.le_refl _)
                  have d0 := bX.d0; have d1 := bX.d1
                  go_wp2_with (at_builtin; refine wpList_pushP2 rfl (.tmp 57) (.tmp 59) rfl wo _ (w.heap.size + 1) _ (ppI g.2.2 qs k) _ _ (askU g.2.2 p j) (giveU g.2.2 p j) rfl rfl hsz hops hW h0 h1 hap (by omega) ?_; intro v4 w4 ho4 hb4 hch4)
                  have bx4 := bxr.below hb4 (by omega)
                  have hw4 : Below w.heap.size w w4 := (below_then hb hw.size hw).trans (hb4.mono (by omega))
                  have hq4 := (hqo.below hb).chg hch4 (fun y hy hs => (hops.below hb).ne (hqo.below hb) y hy hs)
                  go_wp2
                  exact ⟨⟨k + 1, by omega, by go_num, by rw [XP.out]; exact ho4, bx4, hw4, hq4⟩, by simp [intOf]; omega⟩
            · go_simp
              have hbz : Below wo.heap.size wo (wa.alloc (.cells #[.slice none 0 0, .slice none 0 0] 96)) := below_alloc (Nat.le_refl _) hwa
              have bzB : Box (wa.alloc (.cells #[.slice none 0 0, .slice none 0 0] 96)) wa.heap.size 96 #[.slice none 0 0, .slice none 0 0] := Box.new _ _ _
              have bxB : Box (wa.alloc (.cells #[.slice none 0 0, .slice none 0 0] 96)) _ _ _ := bxa.alloc _
              have hoaB := hoa.below (below_alloc (o := (.cells #[.slice none 0 0, .slice none 0 0] 96)) (Nat.le_refl _) (Below.refl wa.heap.size wa))
              have sB : wa.heap.size + 1 = (wa.alloc (.cells #[.slice none 0 0, .slice none 0 0] 96)).heap.size := by simp
              refine hK.out _ _ (⟨bxB.c0, bxB.c1, bxB.c2⟩) (fun hHeld => ?_)
              clear hK K
              try simp only [Act.put, List.setIfInBounds_toArray, List.set_cons_zero, List.set_cons_succ]
              refine callH5 (by kernel_rfl) (fun K hK => ?_)
              go_simp
              go_at_call 69
              refine (withPrio _ _ _ g _ _ _ p _ _ (Nat.le_refl _) (hg.keep (keeps_below (below_then hbz hw.size hw))) (by rw [HP.out]; exact (by have h := hoaB; rw [HA01.out] at h ⊢; exact h.reads)) (by rw [HP.out]; omega)).mono ?_; rintro e wp ⟨vp, rfl, hop, hbp⟩
              rw [HP.out] at hop
              obtain ⟨Aa, ca, rfl⟩ := hop.form
              have hwp : Below wo.heap.size wo wp := below_then hbp hbz.size hbz
              have bxp := bxB.below hbp bxB.lt
              have lp1 : wo.heap.size ≤ (wa.alloc (.cells #[.slice none 0 0, .slice none 0 0] 96)).heap.size := hbz.size
              have bzp := bzB.below hbp bzB.lt
              go_wp2_with fail
              refine hK.out _ _ (⟨bxp.c0, bxp.c1, bxp.c2⟩) (fun hHeld => ?_)
              clear hK K
              try simp only [Act.put, List.setIfInBounds_toArray, List.set_cons_zero, List.set_cons_succ]
              refine takeH6 (v := ?_) (by kernel_rfl) (by kernel_rfl) (by kernel_rfl) (fun _ _ _ h => h) hHeld (by rfl) ?_ ?_
              rotate_left; · (intro w hSw; (try dsimp only at hSw); go_simp; try with_reducible rfl)
              try simp only [Act.put, List.setIfInBounds_toArray, List.set_cons_zero, List.set_cons_succ]
              have fz0 := bzp.hot 0
              have fz1 := bzp.hot 1
              have cz0 := bzp.d0
              have cz1 := bzp.d1
              have e0 := bxp.far (p := ⟨wa.heap.size, 0, none⟩) (by show w.heap.size ≠ wa.heap.size; have := bx.lt; omega) (.slice Aa (askU g.2.2 p n2).length ca)
              have e1z := e0.far (p := ⟨wa.heap.size, 1, none⟩) (by show w.heap.size ≠ wa.heap.size; have := bx.lt; omega) (.slice none 0 0)
              refine callH8 (by kernel_rfl) (fun K hK => ?_)
              go_simp
              refine hK.out _ _ (⟨e1z.c0, e1z.c1, e1z.c2⟩) (fun hHeld => ?_)
              clear hK K
              try simp only [Act.put, List.setIfInBounds_toArray, List.set_cons_zero, List.set_cons_succ]
              refine wpAnyH_done (by kernel_rfl) ?_ _
              have ch : Chg (fun y => y = wa.heap.size) wp ((wp.setCell ⟨wa.heap.size, 0, none⟩ (.slice Aa (askU g.2.2 p n2).length ca)).setCell ⟨wa.heap.size, 1, none⟩ (.slice none 0 0)) := (Chg.set (w := wp) ⟨wa.heap.size, 0, none⟩ (.slice Aa (askU g.2.2 p n2).length ca)).trans (Chg.set ⟨wa.heap.size, 1, none⟩ (.slice none 0 0)) (U := fun y => y = wa.heap.size) (fun _ h => h) (fun _ h => h)
              have bX : Box ((wp.setCell ⟨wa.heap.size, 0, none⟩ (.slice Aa (askU g.2.2 p n2).length ca)).setCell ⟨wa.heap.size, 1, none⟩ (.slice none 0 0)) wa.heap.size 96 #[.slice Aa (askU g.2.2 p n2).length ca, .slice none 0 0] := bzp.set2 _ _
              have hlz : wo.heap.size ≤ wa.heap.size := by omega
              have hwz : Below wo.heap.size wo ((wp.setCell ⟨wa.heap.size, 0, none⟩ (.slice Aa (askU g.2.2 p n2).length ca)).setCell ⟨wa.heap.size, 1, none⟩ (.slice none 0 0)) := hwp.trans (ch.below hwp.size (fun x hx => by have h5 : x = wa.heap.size := hx; omega))
              have hop2 : OI 2 ((wp.setCell ⟨wa.heap.size, 0, none⟩ (.slice Aa (askU g.2.2 p n2).length ca)).setCell ⟨wa.heap.size, 1, none⟩ (.slice none 0 0)) wo.heap.size (.slice Aa (askU g.2.2 p n2).length ca) (askU g.2.2 p n2) := (hop.chg ch (fun y hy e => by have h5 : y = wa.heap.size := e; have h6 := (hop.lt y hy); omega)).more (by omega)
              have bxz : Box ((wp.setCell ⟨wa.heap.size, 0, none⟩ (.slice Aa (askU g.2.2 p n2).length ca)).setCell ⟨wa.heap.size, 1, none⟩ (.slice none 0 0)) w.heap.size 33 #[.slice A0 n0 c0, .slice A1 n1 c1, .slice A2 n2 c2] := bxp.chg ch (fun e => by have h5 : w.heap.size = wa.heap.size := e; have h6 := bx.lt; omega)
              have hne0 : ∀ y, (Value.slice Aa (askU g.2.2 p n2).length ca).ownBlock = some y → y ≠ wa.heap.size := fun y hy e => by have h6 := (hop.lt y hy); have h5 : y = wa.heap.size := e; omega
              have hzl : wa.heap.size < ((wp.setCell ⟨wa.heap.size, 0, none⟩ (.slice Aa (askU g.2.2 p n2).length ca)).setCell ⟨wa.heap.size, 1, none⟩ (.slice none 0 0)).heap.size := bX.lt
              clear ch
              generalize ((wp.setCell ⟨wa.heap.size, 0, none⟩ (.slice Aa (askU g.2.2 p n2).length ca)).setCell ⟨wa.heap.size, 1, none⟩ (.slice none 0 0)) = wz at *
              generalize wa.heap.size = bz at *
              have hbn0 : OI 2 wz (wo.heap.size) (.slice none 0 0) (giveU g.2.2 p 0) := OI.nil _ _ _
              go_wp2
              go_loopw [37] (fun i wr => ∃ (j : Nat) (u1 : Value), j ≤ n2 ∧ i = .int .i64 j ∧ Box wr bz 96 #[.slice Aa (askU g.2.2 p n2).length ca, u1] ∧ OI 2 wr wo.heap.size (.slice Aa (askU g.2.2 p n2).length ca) (askU g.2.2 p n2) ∧ OI 2 wr wo.heap.size u1 (giveU g.2.2 p j) ∧ Apart (.slice Aa (askU g.2.2 p n2).length ca) u1 ∧ (∀ y, u1.ownBlock = some y → y ≠ bz) ∧ Box wr w.heap.size 33 #[.slice A0 n0 c0, .slice A1 n1 c1, .slice A2 n2 c2] ∧ Below wo.heap.size wo wr) (fun i _ => n2 - (intOf i).toNat)
              case atStart => exact ⟨0, _, Nat.zero_le _, rfl, bX, hop2, hbn0, .symm (.inl rfl), (fun y hy => by cases hy), bxz, hwz⟩
              case round =>
                clear bX hop2 hbn0 bxz hwz hzl
                obtain ⟨j, u1, hj, rfl, bX, h0, h1, hap, hne1, bxr, hb⟩ := hrel
                obtain ⟨Ag, cg, rfl⟩ := h1.form
                have hla := askU_len g.2.2 p n2; have hlg := giveU_len g.2.2 p j
                have hs1 := hb.size; have hs2 := bX.lt
                by_cases hlt : j < n2
                · obtain ⟨bp, op, rfl, hcp0⟩ := hrp.at_ hlt
                  have hwr := below_then hb hw.size hw
                  have hcp := keeps_below hwr _ _ hcp0
                  have hji : (j : Int) < (n2 : Int) := by omega
                  have hj0 : (0 : Int) ≤ (j : Int) := by omega
                  have hpr := HR.out j (by rw [HP.out]; exact hlt)
                  have hpr0 := hpr.1; have hpr1 := hpr.2
                  have d0 := bX.d0; have d1 := bX.d1
                  have f0 := bX.hot 0; have f1 := bX.hot 1
                  by_cases hg1 : p < gi g.2.2 j
                  · have e2 : decide (p < gi g.2.2 j) = true := decide_eq_true hg1
                    by_cases hg2 : gi g.2.2 j % 2 = 0
                    · have XG := Lib.hid (giveU_yes hg1 hg2)
                      have e4 : (gi g.2.2 j % 2 == 0) = true := by simp [hg2]
                      clear hg2 hpr
                      go_wp2_with (at_builtin; refine wpList_pushI rfl (.tmp 51) (.tmp 53) rfl _ wo.heap.size _ (giveU g.2.2 p j) (by rfl) h1 _ (by rfl) (by omega) (by omega) ?_; intro v2 w2 ho2 hb2 hc2 hat2; obtain ⟨Av, cv, h1e⟩ := ho2.form; have h1f : v2 = .slice Av ((giveU g.2.2 p j).length + 1) cv := (by rw [h1e]; simp); clear h1e; subst h1f; have bX2 := bX.chg hc2 (fun e => hne1 _ e rfl); have f12 := bX2.hot 1; have d02 := bX2.d0; have d12 := bX2.d1)
                      go_wp2
                      go_roundw
                      case rel =>
                        have ch := Chg.set (w := w2) ⟨bz, 1, none⟩ (.slice Av ((giveU g.2.2 p j).length + 1) cv)
                        refine ⟨j + 1, .slice Av ((giveU g.2.2 p j).length + 1) cv, by omega, by go_num, bX2.set_ 1 _, ?_, ?_, ?_, ?_, ?_, ?_⟩
                        · exact (h0.chg hc2 (fun y hy hs => apart_not hap hy hs)).chg ch (fun y hy e => hne0 y hy e)
                        · rw [XG.out]; exact ho2.chg ch (fun y hy e => by
                            have h5 : y = bz := e
                            rcases hat2 y hy with h6 | h6
                            · exact hne1 y h6 h5
                            · omega)
                        · exact (apart_grow2 hap.symm hat2 (fun y hy => (h0.lt y hy).2)).symm
                        · intro y hy e
                          rcases hat2 y hy with h6 | h6
                          · exact hne1 y h6 e
                          · omega
                        · exact (bxr.chg hc2 (fun e => by have := (h1.lt _ e).1; have := bx.lt; omega)).chg ch (fun e => by have h5 : w.heap.size = bz := e; have := bx.lt; omega)
                        · exact (hb.trans hb2).trans (ch.below (by have := hb2.size; omega) (fun x hx => by have h5 : x = bz := hx; omega))
                      case measure => simp [intOf]; omega
                    · have XG := Lib.hid (giveU_no2 (p := p) hg2)
                      have e4 : (gi g.2.2 j % 2 == 0) = false := by simp [hg2]
                      clear hg2 hpr
                      go_wp2
                      go_roundw
                      case rel => exact ⟨j + 1, _, by omega, by go_num, bX, h0, by rw [XG.out]; exact h1, hap, hne1, bxr, hb⟩
                      case measure => simp [intOf]; omega
                  · have XG := Lib.hid (giveU_no1 (pr := g.2.2) (p := p) (k := j) hg1)
                    have e2 : decide (p < gi g.2.2 j) = false := decide_eq_false hg1
                    clear hpr
                    go_wp2
                    go_roundw
                    case rel => exact ⟨j + 1, _, by omega, by go_num, bX, h0, by rw [XG.out]; exact h1, hap, hne1, bxr, hb⟩
                    case measure => simp [intOf]; omega
                · obtain rfl : j = n2 := by omega
                  have hW : Chg (fun b => b < w.heap.size + 1) wo wr := (Chg.refl _ _).then_below hb (Nat.le_refl _)
                  have d0 := bX.d0; have d1 := bX.d1
                  go_wp2_with (at_builtin; refine wpList_pushP2 rfl (.tmp 57) (.tmp 59) rfl wo _ (w.heap.size + 1) _ (ppI g.2.2 qs k) _ _ (askU g.2.2 p j) (giveU g.2.2 p j) rfl rfl hsz hops hW h0 h1 hap (by omega) ?_; intro v4 w4 ho4 hb4 hch4)
                  have bx4 := bxr.below hb4 (by omega)
                  have hw4 : Below w.heap.size w w4 := (below_then hb hw.size hw).trans (hb4.mono (by omega))
                  have hq4 := (hqo.below hb).chg hch4 (fun y hy hs => (hops.below hb).ne (hqo.below hb) y hy hs)
                  go_wp2
                  exact ⟨⟨k + 1, by omega, by go_num, by rw [XP.out]; exact ho4, bx4, hw4, hq4⟩, by simp [intOf]; omega⟩
          · go_simp
            have hbz : Below wo.heap.size wo (wD.alloc (.cells #[.slice none 0 0, .slice none 0 0] 96)) := below_alloc (Nat.le_refl _) hwD
            have bzA : Box (wD.alloc (.cells #[.slice none 0 0, .slice none 0 0] 96)) wD.heap.size 96 #[.slice none 0 0, .slice none 0 0] := Box.new _ _ _
            have bxA : Box (wD.alloc (.cells #[.slice none 0 0, .slice none 0 0] 96)) _ _ _ := bxD.alloc _
            have sA : wD.heap.size + 1 = (wD.alloc (.cells #[.slice none 0 0, .slice none 0 0] 96)).heap.size := by simp
            refine hK.out _ _ (⟨bxA.c0, bxA.c1, bxA.c2⟩) (fun hHeld => ?_)
            clear hK K
            try simp only [Act.put, List.setIfInBounds_toArray, List.set_cons_zero, List.set_cons_succ]
            refine callH3 (by kernel_rfl) (fun K hK => ?_)
            go_simp
            go_at_call 68
            refine (allOf _ _ _ _ _ _ _ _ (Nat.le_refl _) (by omega)).mono ?_; rintro e wa ⟨va, rfl, hoa, hba'⟩
            obtain ⟨Al, cl, rfl⟩ := hoa.form
            rw [allL_len] at hoa ⊢
            have hwa : Below wo.heap.size wo wa := below_then hba' hbz.size hbz
            have bxa := bxA.below hba' bxA.lt
            have bza := bzA.below hba' bzA.lt
            have sa1 := hba'.size
            go_wp2_with fail
            refine hK.out _ _ (⟨bxa.c0, bxa.c1, bxa.c2⟩) (fun hHeld => ?_)
            clear hK K
            try simp only [Act.put, List.setIfInBounds_toArray, List.set_cons_zero, List.set_cons_succ]
            refine callH5 (by kernel_rfl) (fun K hK => ?_)
            go_simp
            go_at_call 69
            refine (withPrio _ _ _ g _ _ _ p _ _ (Nat.le_refl _) (hg.keep (keeps_below (below_then hwa hw.size hw))) (by rw [HP.out]; exact (by have h := hoa; rw [HA01.out] at h ⊢; exact h.reads)) (by rw [HP.out]; omega)).mono ?_; rintro e wp ⟨vp, rfl, hop, hbp⟩
            rw [HP.out] at hop
            obtain ⟨Aa, ca, rfl⟩ := hop.form
            have hwp : Below wo.heap.size wo wp := below_then hbp hwa.size hwa
            have bxp := bxa.below hbp bxa.lt
            have lp1 : wo.heap.size ≤ wa.heap.size := hwa.size
            have bzp := bza.below hbp bza.lt
            go_wp2_with fail
            refine hK.out _ _ (⟨bxp.c0, bxp.c1, bxp.c2⟩) (fun hHeld => ?_)
            clear hK K
            try simp only [Act.put, List.setIfInBounds_toArray, List.set_cons_zero, List.set_cons_succ]
            refine takeH6 (v := ?_) (by kernel_rfl) (by kernel_rfl) (by kernel_rfl) (fun _ _ _ h => h) hHeld (by rfl) ?_ ?_
            rotate_left; · (intro w hSw; (try dsimp only at hSw); go_simp; try with_reducible rfl)
            try simp only [Act.put, List.setIfInBounds_toArray, List.set_cons_zero, List.set_cons_succ]
            have fz0 := bzp.hot 0
            have fz1 := bzp.hot 1
            have cz0 := bzp.d0
            have cz1 := bzp.d1
            have e0 := bxp.far (p := ⟨wD.heap.size, 0, none⟩) (by show w.heap.size ≠ wD.heap.size; have := bx.lt; omega) (.slice Aa (askU g.2.2 p n2).length ca)
            have e1z := e0.far (p := ⟨wD.heap.size, 1, none⟩) (by show w.heap.size ≠ wD.heap.size; have := bx.lt; omega) (.slice none 0 0)
            refine callH8 (by kernel_rfl) (fun K hK => ?_)
            go_simp
            refine hK.out _ _ (⟨e1z.c0, e1z.c1, e1z.c2⟩) (fun hHeld => ?_)
            clear hK K
            try simp only [Act.put, List.setIfInBounds_toArray, List.set_cons_zero, List.set_cons_succ]
            refine wpAnyH_done (by kernel_rfl) ?_ _
            have ch : Chg (fun y => y = wD.heap.size) wp ((wp.setCell ⟨wD.heap.size, 0, none⟩ (.slice Aa (askU g.2.2 p n2).length ca)).setCell ⟨wD.heap.size, 1, none⟩ (.slice none 0 0)) := (Chg.set (w := wp) ⟨wD.heap.size, 0, none⟩ (.slice Aa (askU g.2.2 p n2).length ca)).trans (Chg.set ⟨wD.heap.size, 1, none⟩ (.slice none 0 0)) (U := fun y => y = wD.heap.size) (fun _ h => h) (fun _ h => h)
            have bX : Box ((wp.setCell ⟨wD.heap.size, 0, none⟩ (.slice Aa (askU g.2.2 p n2).length ca)).setCell ⟨wD.heap.size, 1, none⟩ (.slice none 0 0)) wD.heap.size 96 #[.slice Aa (askU g.2.2 p n2).length ca, .slice none 0 0] := bzp.set2 _ _
            have hlz : wo.heap.size ≤ wD.heap.size := by omega
            have hwz : Below wo.heap.size wo ((wp.setCell ⟨wD.heap.size, 0, none⟩ (.slice Aa (askU g.2.2 p n2).length ca)).setCell ⟨wD.heap.size, 1, none⟩ (.slice none 0 0)) := hwp.trans (ch.below hwp.size (fun x hx => by have h5 : x = wD.heap.size := hx; omega))
            have hop2 : OI 2 ((wp.setCell ⟨wD.heap.size, 0, none⟩ (.slice Aa (askU g.2.2 p n2).length ca)).setCell ⟨wD.heap.size, 1, none⟩ (.slice none 0 0)) wo.heap.size (.slice Aa (askU g.2.2 p n2).length ca) (askU g.2.2 p n2) := (hop.chg ch (fun y hy e => by have h5 : y = wD.heap.size := e; have h6 := (hop.lt y hy); omega)).more (by omega)
            have bxz : Box ((wp.setCell ⟨wD.heap.size, 0, none⟩ (.slice Aa (askU g.2.2 p n2).length ca)).setCell ⟨wD.heap.size, 1, none⟩ (.slice none 0 0)) w.heap.size 33 #[.slice A0 n0 c0, .slice A1 n1 c1, .slice A2 n2 c2] := bxp.chg ch (fun e => by have h5 : w.heap.size = wD.heap.size := e; have h6 := bx.lt; omega)
            have hne0 : ∀ y, (Value.slice Aa (askU g.2.2 p n2).length ca).ownBlock = some y → y ≠ wD.heap.size := fun y hy e => by have h6 := (hop.lt y hy); have h5 : y = wD.heap.size := e; omega
            have hzl : wD.heap.size < ((wp.setCell ⟨wD.heap.size, 0, none⟩ (.slice Aa (askU g.2.2 p n2).length ca)).setCell ⟨wD.heap.size, 1, none⟩ (.slice none 0 0)).heap.size := bX.lt
            clear ch
            generalize ((wp.setCell ⟨wD.heap.size, 0, none⟩ (.slice Aa (askU g.2.2 p n2).length ca)).setCell ⟨wD.heap.size, 1, none⟩ (.slice none 0 0)) = wz at *
            generalize wD.heap.size = bz at *
            have hbn0 : OI 2 wz (wo.heap.size) (.slice none 0 0) (giveU g.2.2 p 0) := OI.nil _ _ _
            go_wp2
            go_loopw [37] (fun i wr => ∃ (j : Nat) (u1 : Value), j ≤ n2 ∧ i = .int .i64 j ∧ Box wr bz 96 #[.slice Aa (askU g.2.2 p n2).length ca, u1] ∧ OI 2 wr wo.heap.size (.slice Aa (askU g.2.2 p n2).length ca) (askU g.2.2 p n2) ∧ OI 2 wr wo.heap.size u1 (giveU g.2.2 p j) ∧ Apart (.slice Aa (askU g.2.2 p n2).length ca) u1 ∧ (∀ y, u1.ownBlock = some y → y ≠ bz) ∧ Box wr w.heap.size 33 #[.slice A0 n0 c0, .slice A1 n1 c1, .slice A2 n2 c2] ∧ Below wo.heap.size wo wr) (fun i _ => n2 - (intOf i).toNat)
            case atStart => exact ⟨0, _, Nat.zero_le _, rfl, bX, hop2, hbn0, .symm (.inl rfl), (fun y hy => by cases hy), bxz, hwz⟩
            case round =>
              clear bX hop2 hbn0 bxz hwz hzl
              obtain ⟨j, u1, hj, rfl, bX, h0, h1, hap, hne1, bxr, hb⟩ := hrel
              obtain ⟨Ag, cg, rfl⟩ := h1.form
              have hla := askU_len g.2.2 p n2; have hlg := giveU_len g.2.2 p j
              have hs1 := hb.size; have hs2 := bX.lt
              by_cases hlt : j < n2
              · obtain ⟨bp, op, rfl, hcp0⟩ := hrp.at_ hlt
                have hwr := below_then hb hw.size hw
                have hcp := keeps_below hwr _ _ hcp0
                have hji : (j : Int) < (n2 : Int) := by omega
                have hj0 : (0 : Int) ≤ (j : Int) := by omega
                have hpr := HR.out j (by rw [HP.out]; exact hlt)
                have hpr0 := hpr.1; have hpr1 := hpr.2
                have d0 := bX.d0; have d1 := bX.d1
                have f0 := bX.hot 0; have f1 := bX.hot 1
                by_cases hg1 : p < gi g.2.2 j
                · have e2 : decide (p < gi g.2.2 j) = true := decide_eq_true hg1
                  by_cases hg2 : gi g.2.2 j % 2 = 0
                  · have XG := Lib.hid (giveU_yes hg1 hg2)
                    have e4 : (gi g.2.2 j % 2 == 0) = true := by simp [hg2]
                    clear hg2 hpr
                    go_wp2_with (at_builtin; refine wpList_pushI rfl (.tmp 51) (.tmp 53) rfl _ wo.heap.size _ (giveU g.2.2 p j) (by rfl) h1 _ (by rfl) (by omega) (by omega) ?_; intro v2 w2 ho2 hb2 hc2 hat2; obtain ⟨Av, cv, h1e⟩ := ho2.form; have h1f : v2 = .slice Av ((giveU g.2.2 p j).length + 1) cv := (by rw [h1e]; simp); clear h1e; subst h1f; have bX2 := bX.chg hc2 (fun e => hne1 _ e rfl); have f12 := bX2.hot 1; have d02 := bX2.d0; have d12 := bX2.d1)
                    go_wp2
                    go_roundw
                    case rel =>
                      have ch := Chg.set (w := w2) ⟨bz, 1, none⟩ (.slice Av ((giveU g.2.2 p j).length + 1) cv)
                      refine ⟨j + 1, .slice Av ((giveU g.2.2 p j).length + 1) cv, by omega, by go_num, bX2.set_ 1 _, ?_, ?_, ?_, ?_, ?_, ?_⟩
                      · exact (h0.chg hc2 (fun y hy hs => apart_not hap hy hs)).chg ch (fun y hy e => hne0 y hy e)
                      · rw [XG.out]; exact ho2.chg ch (fun y hy e => by
                          have h5 : y = bz := e
                          rcases hat2 y hy with h6 | h6
                          · exact hne1 y h6 h5
                          · omega)
                      · exact (apart_grow2 hap.symm hat2 (fun y hy => (h0.lt y hy).2)).symm
                      · intro y hy e
                        rcases hat2 y hy with h6 | h6
                        · exact hne1 y h6 e
                        · omega
                      · exact (bxr.chg hc2 (fun e => by have := (h1.lt _ e).1; have := bx.lt; omega)).chg ch (fun e => by have h5 : w.heap.size = bz := e; have := bx.lt; omega)
                      · exact (hb.trans hb2).trans (ch.below (by have := hb2.size; omega) (fun x hx => by have h5 : x = bz := hx; omega))
                    case measure => simp [intOf]; omega
                  · have XG := Lib.hid (giveU_no2 (p := p) hg2)
                    have e4 : (gi g.2.2 j % 2 == 0) = false := by simp [hg2]
                    clear hg2 hpr
                    go_wp2
                    go_roundw
                    case rel => exact ⟨j + 1, _, by omega, by go_num, bX, h0, by rw [XG.out]; exact h1, hap, hne1, bxr, hb⟩
                    case measure => simp [intOf]; omega
                · have XG := Lib.hid (giveU_no1 (pr := g.2.2) (p := p) (k := j) hg1)
                  have e2 : decide (p < gi g.2.2 j) = false := decide_eq_false hg1
                  clear hpr
                  go_wp2
                  go_roundw
                  case rel => exact ⟨j + 1, _, by omega, by go_num, bX, h0, by rw [XG.out]; exact h1, hap, hne1, bxr, hb⟩
                  case measure => simp [intOf]; omega
              · obtain rfl : j = n2 := by omega
                have hW : Chg (fun b => b < w.heap.size + 1) wo wr := (Chg.refl _ _).then_below hb (Nat.le_refl _)
                have d0 := bX.d0; have d1 := bX.d1
                go_wp2_with (at_builtin; refine wpList_pushP2 rfl (.tmp 57) (.tmp 59) rfl wo _ (w.heap.size + 1) _ (ppI g.2.2 qs k) _ _ (askU g.2.2 p j) (giveU g.2.2 p j) rfl rfl hsz hops hW h0 h1 hap (by omega) ?_; intro v4 w4 ho4 hb4 hch4)
                have bx4 := bxr.below hb4 (by omega)
                have hw4 : Below w.heap.size w w4 := (below_then hb hw.size hw).trans (hb4.mono (by omega))
                have hq4 := (hqo.below hb).chg hch4 (fun y hy hs => (hops.below hb).ne (hqo.below hb) y hy hs)
                go_wp2
                exact ⟨⟨k + 1, by omega, by go_num, by rw [XP.out]; exact ho4, bx4, hw4, hq4⟩, by simp [intOf]; omega⟩
      · obtain rfl : k = qs.length := by omega
        have HS2 := Lib.hid HSAME.out
        rw [HSAME.out] at hops
        by_cases h4 : (ppI g.2.2 qs qs.length).length ≤ 4
        · have E := Lib.hid (okPP_yes HB.out (by rw [← HSAME.out]; exact h4))
          have h5 : ¬ 4 < (ppI g.2.2 qs qs.length).length := by omega
          go_wp2
          go_ret2
          exact ⟨.slice Ao (ppI g.2.2 qs qs.length).length co, by rw [E.out]; rfl, by rw [ppR_yes E.out, HSAME.out]; exact hops.more (Nat.le_succ_of_le hB), hw.mono hB⟩
        · have E := Lib.hid (okPP_no2 (by rw [← HSAME.out]; exact h4))
          have h5 : 4 < (ppI g.2.2 qs qs.length).length := by omega
          clear h4
          go_wp2
          go_ret2
          exact ⟨.slice none 0 0, by rw [E.out]; rfl, by rw [ppR_no E.out]; exact OPS.nil _ _, hw.mono hB⟩
theorem ppS_szP {pr : List Int} (h : pr.length ≤ 256) : ∀ k, ((ppS pr k).map szP).sum ≤ 512 * (ppS pr k).length
  | 0 => by simp [ppS]
  | k + 1 => by
    have ih := ppS_szP h k
    by_cases hp : 0 < (askU pr (2 * (k : Int) + 1) pr.length).length
    · rw [ppS_yes hp, List.map_append, List.sum_append, List.length_append]
      have h1 := askU_len pr (2 * (k : Int) + 1) pr.length
      have h2 := giveU_len pr (2 * (k : Int) + 1) pr.length
      have h3 : szP (pairOf pr (2 * (k : Int) + 1)) ≤ 512 := by
        show (askU pr (2 * (k : Int) + 1) pr.length).length + (giveU pr (2 * (k : Int) + 1) pr.length).length ≤ 512
        omega
      simp
      omega
    · rw [ppS_no hp]; exact ih
theorem ppR_tot (g : ParD) : totP (ppR g) ≤ 8192 := by
  unfold ppR
  split
  · rename_i h
    unfold okPP at h
    rw [Bool.and_eq_true] at h
    have h4 := of_decide_eq_true h.2
    obtain ⟨hf1, hf2, _⟩ := finePar_of h.1
    have h5 := ppS_szP (pr := g.2.2) (by rw [hf2]; exact hf1.2.1) 20
    unfold totP
    omega
  · simp [totP]
end Go.Proofs.Ytlmhhnplacejkaa
