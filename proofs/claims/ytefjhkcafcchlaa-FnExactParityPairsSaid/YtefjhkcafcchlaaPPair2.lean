/- ParityPairs, spec and impl. -/
import Derived.Test.YtefjhkcafcchlaaPPair1
import Derived.Test.YtefjhkcafcchlaaPairs5
import Derived.Test.YtefjhkcafcchlaaAttr
import Derived.Test.YtefjhkcafcchlaaArn
import Derived.Test.YtefjhkcafcchlaaHand
import Derived.Test.YtefjhkcafcchlaaPut
namespace Go.Proofs.Ytefjhkcafcchlaa
open Go.RowKit

/-- the pair of a priority; the reference's way over the odd ones; the program's over those that occur -/
def pairOf (pr : List Int) (p : Int) : PairD := (askU pr p pr.length, giveU pr p pr.length)
def ppS (pr : List Int) : Nat → List PairD
  | 0 => []
  | k + 1 => if 0 < (askU pr (2 * (k : Int) + 1) pr.length).length then ppS pr k ++ [pairOf pr (2 * (k : Int) + 1)] else ppS pr k
def ppI (pr qs : List Int) : Nat → List PairD
  | 0 => []
  | k + 1 => if gi qs k % 2 = 0 then ppI pr qs k else ppI pr qs k ++ [pairOf pr (gi qs k)]
theorem ppS_yes {pr : List Int} {k : Nat} (h : 0 < (askU pr (2 * (k : Int) + 1) pr.length).length) : ppS pr (k + 1) = ppS pr k ++ [pairOf pr (2 * (k : Int) + 1)] := by rw [ppS, if_pos h]
theorem ppS_no {pr : List Int} {k : Nat} (h : ¬ 0 < (askU pr (2 * (k : Int) + 1) pr.length).length) : ppS pr (k + 1) = ppS pr k := by rw [ppS, if_neg h]
theorem ppI_yes {pr qs : List Int} {k : Nat} (h : ¬ gi qs k % 2 = 0) : ppI pr qs (k + 1) = ppI pr qs k ++ [pairOf pr (gi qs k)] := by rw [ppI, if_neg h]
theorem ppI_no {pr qs : List Int} {k : Nat} (h : gi qs k % 2 = 0) : ppI pr qs (k + 1) = ppI pr qs k := by rw [ppI, if_pos h]
theorem ppS_len (pr : List Int) : ∀ k, (ppS pr k).length ≤ k
  | 0 => Nat.le_refl _
  | k + 1 => by
    have := ppS_len pr k
    by_cases h : 0 < (askU pr (2 * (k : Int) + 1) pr.length).length
    · rw [ppS_yes h]; simp; omega
    · rw [ppS_no h]; omega
theorem ppI_len (pr qs : List Int) : ∀ k, (ppI pr qs k).length ≤ k
  | 0 => Nat.le_refl _
  | k + 1 => by
    have := ppI_len pr qs k
    by_cases h : gi qs k % 2 = 0
    · rw [ppI_no h]; omega
    · rw [ppI_yes h]; simp; omega
theorem askU_pos {pr : List Int} {p : Int} : 0 < (askU pr p pr.length).length ↔ p ∈ pr := by
  rw [List.length_pos_iff_exists_mem]
  constructor
  · rintro ⟨x, hx⟩
    unfold askU at hx
    obtain ⟨i, hi, hp, _⟩ := mem_pick.1 hx
    have hp2 : gi pr i = p := by simpa using hp
    rw [← hp2]
    exact gi_mem hi
  · intro h
    obtain ⟨i, hi, e⟩ := mem_gi h
    exact ⟨(i : Int), mem_pick.2 ⟨i, hi, by simp [e], rfl⟩⟩
/-- both ways are over the odd priorities that occur, in order -/
theorem ppS_map (pr : List Int) : ∀ k, ∃ l : List Int, ppS pr k = l.map (pairOf pr) ∧ l.Pairwise (· < ·) ∧ ∀ x, x ∈ l ↔ (x ∈ pr ∧ x % 2 = 1 ∧ 1 ≤ x ∧ x < 2 * (k : Int) + 1)
  | 0 => ⟨[], rfl, by simp, fun x => by simp⟩
  | k + 1 => by
    obtain ⟨l, h1, h2, h3⟩ := ppS_map pr k
    by_cases h : 0 < (askU pr (2 * (k : Int) + 1) pr.length).length
    · refine ⟨l ++ [2 * (k : Int) + 1], by rw [ppS_yes h, h1, List.map_append]; rfl, List.pairwise_append.2 ⟨h2, by simp, fun a ha b hb => ?_⟩, fun x => ?_⟩
      · rw [List.mem_singleton] at hb
        subst hb
        exact ((h3 a).1 ha).2.2.2
      · rw [List.mem_append, List.mem_singleton, h3]
        constructor
        · rintro (⟨a, b, c, d⟩ | rfl)
          · exact ⟨a, b, c, by omega⟩
          · exact ⟨askU_pos.1 h, by omega, by omega, by omega⟩
        · rintro ⟨a, b, c, d⟩
          by_cases e : x = 2 * (k : Int) + 1
          · exact .inr e
          · exact .inl ⟨a, b, c, by omega⟩
    · refine ⟨l, by rw [ppS_no h, h1], h2, fun x => ?_⟩
      rw [h3]
      constructor
      · rintro ⟨a, b, c, d⟩; exact ⟨a, b, c, by omega⟩
      · rintro ⟨a, b, c, d⟩
        refine ⟨a, b, c, ?_⟩
        by_cases e : x = 2 * (k : Int) + 1
        · subst e
          exact absurd (askU_pos.2 a) h
        · omega
theorem ppI_map (pr qs : List Int) (hq : qs.Pairwise (· < ·)) : ∀ k, k ≤ qs.length → ∃ l : List Int, ppI pr qs k = l.map (pairOf pr) ∧ l.Pairwise (· < ·) ∧ ∀ x, x ∈ l ↔ (x ∈ qs.take k ∧ ¬ x % 2 = 0)
  | 0, _ => ⟨[], rfl, by simp, fun x => by simp⟩
  | k + 1, hk => by
    obtain ⟨l, h1, h2, h3⟩ := ppI_map pr qs hq k (by omega)
    have ht := take_gi (xs := qs) (k := k) (by omega)
    by_cases h : gi qs k % 2 = 0
    · refine ⟨l, by rw [ppI_no h, h1], h2, fun x => ?_⟩
      rw [h3, ht, List.mem_append, List.mem_singleton]
      constructor
      · rintro ⟨a, b⟩; exact ⟨.inl a, b⟩
      · rintro ⟨a | a, b⟩
        · exact ⟨a, b⟩
        · subst a; exact absurd h b
    · refine ⟨l ++ [gi qs k], by rw [ppI_yes h, h1, List.map_append]; rfl, List.pairwise_append.2 ⟨h2, by simp, fun a ha b hb => ?_⟩, fun x => ?_⟩
      · rw [List.mem_singleton] at hb
        subst hb
        obtain ⟨j, hj, rfl⟩ := List.getElem_of_mem ((h3 a).1 ha).1
        rw [List.length_take] at hj
        rw [List.getElem_take, gi_get (by omega)]
        exact List.pairwise_iff_getElem.1 hq j k (by omega) (by omega) (by omega)
      · rw [List.mem_append, List.mem_singleton, h3, ht, List.mem_append, List.mem_singleton]
        constructor
        · rintro (⟨a, b⟩ | rfl)
          · exact ⟨.inl a, b⟩
          · exact ⟨.inr rfl, h⟩
        · rintro ⟨a | a, b⟩
          · exact .inl ⟨a, b⟩
          · exact .inr a
theorem pp_same {pr qs : List Int} (hq : qs.Pairwise (· < ·)) (hm : ∀ x, x ∈ qs ↔ x ∈ pr) (hr : ∀ x, x ∈ pr → 0 ≤ x ∧ x ≤ 40) : ppI pr qs qs.length = ppS pr 20 := by
  obtain ⟨l, h1, h2, h3⟩ := ppS_map pr 20
  obtain ⟨l', k1, k2, k3⟩ := ppI_map pr qs hq qs.length (Nat.le_refl _)
  rw [h1, k1]
  congr 1
  refine asc_ext k2 h2 fun x => ?_
  rw [k3, List.take_length, hm, h3]
  constructor
  · rintro ⟨a, b⟩
    have := hr x a
    exact ⟨a, by omega, by omega, by omega⟩
  · rintro ⟨a, b, c, d⟩
    exact ⟨a, by omega⟩
noncomputable def okPP (g : ParD) : Bool := parB g && decide ((ppS g.2.2 20).length ≤ 4)
noncomputable def ppR (g : ParD) : List PairD := if okPP g = true then ppS g.2.2 20 else []
theorem okPP_no1 {g : ParD} (h : parB g = false) : okPP g = false := by unfold okPP; rw [h]; rfl
theorem okPP_no2 {g : ParD} (h : ¬ (ppS g.2.2 20).length ≤ 4) : okPP g = false := by unfold okPP; rw [decide_eq_false h, Bool.and_false]
theorem okPP_yes {g : ParD} (h : parB g = true) (h2 : (ppS g.2.2 20).length ≤ 4) : okPP g = true := by unfold okPP; rw [h, decide_eq_true h2]; rfl
theorem ppR_no {g : ParD} (h : okPP g = false) : ppR g = [] := by unfold ppR; rw [h]; rfl
theorem ppR_yes {g : ParD} (h : okPP g = true) : ppR g = ppS g.2.2 20 := by unfold ppR; rw [if_pos h]
theorem OPS.part {w w' : World} {lo : Nat} {v : Value} {ps : List PairD} (h : OPS w lo v ps) (hb : Below w.heap.size w w') : Chg (fun b => b < lo) w w' := (Chg.refl _ _).then_below hb (Nat.le_refl _)

set_option maxRecDepth 100000 in
set_option maxHeartbeats 3200000 in
theorem specParityPairs (s0 s1 s2 : Value) (g : ParD) (w : World) (B : Nat) (hB : B ≤ w.heap.size) (hg : RPv w s0 s1 s2 g) :
    Calls Try.prog 61 #[.agg #[s0, s1, s2]] w fun e w' => ∃ v, e = .returned (.tuple #[v, .bool (okPP g)]) ∧ OPS w' B v (ppR g) ∧ Below B w w' := by
  obtain ⟨A0, n0, c0, A1, n1, c1, A2, n2, c2, rfl, rfl, rfl⟩ := hg.form
  have hrp := hg.rp
  have b3 := hrp.cap; have b4 := hrp.top
  have HP := Lib.hid hrp.len
  have hba : Below w.heap.size w ((w.alloc (.cells #[.slice A0 n0 c0, .slice A1 n1 c1, .slice A2 n2 c2] 44)).alloc (.cells #[] 128)) := below_alloc (Nat.le_refl _) (below_alloc (Nat.le_refl _) (Below.refl _ _))
  have bx := (Box.new w 44 #[.slice A0 n0 c0, .slice A1 n1 c1, .slice A2 n2 c2]).alloc (.cells #[] 128)
  have hem := OPS.empty (w := w.alloc (.cells #[.slice A0 n0 c0, .slice A1 n1 c1, .slice A2 n2 c2] 44)) (B := w.heap.size + 1) (by simp)
  rw [show (w.alloc (.cells #[.slice A0 n0 c0, .slice A1 n1 c1, .slice A2 n2 c2] 44)).heap.size = w.heap.size + 1 by simp] at hem
  have q0 := bx.c0; have q1 := bx.c1; have q2 := bx.c2
  cases hpb : parB g with
  | false =>
    have E := Lib.hid (okPP_no1 hpb)
    have HB := Lib.hid hpb
    clear hpb
    go_enter Try.func61, Try.ntmps61
    go_wp2_with fail
    refine (specParityOk _ _ _ g _ _ (Nat.le_refl _) (hg.keep (keeps_below hba))).mono ?_; rintro e w1 ⟨rfl, hb1⟩
    rw [HB.out]
    have hw1 := below_then hb1 hba.size hba
    go_wp2
    go_ret2
    exact ⟨.slice (some ⟨w.heap.size + 1, 0, none⟩) 0 0, by rw [E.out]; rfl, by rw [ppR_no E.out]; exact (hem.below hb1).more (Nat.le_succ_of_le hB), hw1.mono hB⟩
  | true =>
    have HB := Lib.hid hpb
    obtain ⟨hf1, hf2, hf3⟩ := finePar_of hpb
    have hn2 : n2 ≤ 256 := by have := hf1.2.1; rw [← hf2, HP.out] at this; exact this
    have HR := Lib.hid hf3
    clear hpb hf1 hf2 hf3
    go_enter Try.func61, Try.ntmps61
    go_wp2_with fail
    refine (specParityOk _ _ _ g _ _ (Nat.le_refl _) (hg.keep (keeps_below hba))).mono ?_; rintro e w1 ⟨rfl, hb1⟩
    rw [HB.out]
    have hw1 := below_then hb1 hba.size hba
    replace bx := bx.below hb1 bx.lt; replace hem := hem.below hb1
    clear q0 q1 q2 hb1 hba
    go_wp2
    go_loopw [4, 5] (fun v i wr => ∃ k : Nat, k ≤ 20 ∧ i = .int .i64 (2 * (k : Int) + 1) ∧ OPS wr (w.heap.size + 1) v (ppS g.2.2 k) ∧ Box wr w.heap.size 44 #[.slice A0 n0 c0, .slice A1 n1 c1, .slice A2 n2 c2] ∧ Below w.heap.size w wr) (fun _ i _ => (50 - intOf i).toNat)
    case atStart => exact ⟨0, Nat.zero_le _, by go_num, hem, bx, hw1⟩
    case round =>
      obtain ⟨wo, rfl⟩ : ∃ wo : World, wo = wr := ⟨_, rfl⟩
      clear hem bx hw1
      obtain ⟨k, hk, rfl, hops, bx, hw⟩ := hrel
      have hpl := ppS_len g.2.2 k
      have hsz : w.heap.size + 1 ≤ wo.heap.size := bx.lt
      obtain ⟨Ao, co, rfl⟩ := hops.form
      by_cases hk20 : k < 20
      · have hle : 2 * (k : Int) + 1 ≤ 40 := by omega
        have hge : 0 ≤ 2 * (k : Int) + 1 := by omega
        have HYES := Lib.hid (ppS_yes (pr := g.2.2) (k := k))
        have HNO := Lib.hid (ppS_no (pr := g.2.2) (k := k))
        have hbX : Below wo.heap.size wo (wo.alloc (.cells #[.slice none 0 0, .slice none 0 0] 128)) := below_alloc (Nat.le_refl _) (Below.refl _ _)
        have bX := Box.new wo 128 #[.slice none 0 0, .slice none 0 0]
        generalize hp : 2 * (k : Int) + 1 = p at *
        have HPK := Lib.hid hp
        clear hp
        go_wp2
        go_loopw [7] (fun i wr => ∃ (j : Nat) (u0 u1 : Value), j ≤ n2 ∧ i = .int .i64 j ∧ Box wr wo.heap.size 128 #[u0, u1] ∧ OI 2 wr (wo.heap.size + 1) u0 (askU g.2.2 p j) ∧ OI 2 wr (wo.heap.size + 1) u1 (giveU g.2.2 p j) ∧ Apart u0 u1 ∧ Below wo.heap.size wo wr) (fun i _ => n2 - (intOf i).toNat)
        case atStart => exact ⟨0, _, _, Nat.zero_le _, rfl, bX, OI.nil _ _ _, OI.nil _ _ _, .inl rfl, hbX⟩
        case round =>
          clear bX hbX
          obtain ⟨j, u0, u1, hj, rfl, bX, h0, h1, hap, hb⟩ := hrel
          obtain ⟨Aa, ca, rfl⟩ := h0.form
          obtain ⟨Ag, cg, rfl⟩ := h1.form
          have hla := askU_len g.2.2 p j; have hlg := giveU_len g.2.2 p j
          have hs1 := hb.size; have hs2 := bX.lt
          have bxr := bx.below hb bx.lt
          have q2 := bxr.c2
          by_cases hlt : j < n2
          · obtain ⟨bp, op, rfl, hcp0⟩ := hrp.at_ hlt
            have hwr := below_then hb hw.size hw
            have hcp := keeps_below hwr _ _ hcp0
            have hji : (j : Int) < (n2 : Int) := by omega
            have hj0 : (0 : Int) ≤ (j : Int) := by omega
            have hpr := HR.out j (by rw [HP.out]; exact hlt)
            have hbp : bp < w.heap.size := by simpa using World.block_lt_of_cell? w _ hcp0
            have x1 : ¬ wo.heap.size = w.heap.size := by omega
            have x2 : ¬ w.heap.size = wo.heap.size := by omega
            have x3 : ¬ wo.heap.size = bp := by omega
            have x4 : ¬ bp = wo.heap.size := by omega
            have hpr0 := hpr.1; have hpr1 := hpr.2
            have d0 := bX.d0; have d1 := bX.d1
            have f0 := bX.hot 0; have f1 := bX.hot 1
            by_cases he : gi g.2.2 j = p
            · have XA := Lib.hid (askU_yes he)
              have XG := Lib.hid (giveU_no1 (pr := g.2.2) (p := p) (k := j) (by omega))
              have e1 : (gi g.2.2 j == p) = true := by simp [he]
              have e2 : decide (p < gi g.2.2 j) = false := decide_eq_false (by omega)
              have e3 : ¬ p < gi g.2.2 j := by omega
              clear he hpr
              go_wp2_with (at_builtin; refine wpList_pushI rfl (.tmp 33) (.tmp 35) rfl _ (wo.heap.size + 1) _ (askU g.2.2 p j) (by rfl) h0 _ (by rfl) (by omega) (by omega) ?_; intro v2 w2 ho2 hb2 hc2 hat2; obtain ⟨Av, cv, h1e⟩ := ho2.form; have h1f : v2 = .slice Av ((askU g.2.2 p j).length + 1) cv := (by rw [h1e]; simp); clear h1e; subst h1f; have bX2 := bX.below hb2 (by omega); have bxw := bxr.below hb2 (by omega); have q22 := bxw.c2; have hcp2 : w2.cell? ⟨bp, op + j, none⟩ = some (.int .i64 (gi g.2.2 j)) := keeps_below (hwr.trans (hb2.mono (by omega))) _ _ hcp0; have f02 := bX2.hot 0; have d02 := bX2.d0; have d12 := bX2.d1; have f12 := bX2.hot 1; have q23 : ∀ u, (w2.setCell ⟨wo.heap.size, 0, none⟩ u).cell? ⟨w.heap.size, 2, none⟩ = some (.slice (some ⟨bp, op, none⟩) n2 c2) := (fun u => keepS q22 (by show w.heap.size ≠ wo.heap.size; omega)); have hcp3 : ∀ u, (w2.setCell ⟨wo.heap.size, 0, none⟩ u).cell? ⟨bp, op + j, none⟩ = some (.int .i64 (gi g.2.2 j)) := (fun u => keepS hcp2 (by show bp ≠ wo.heap.size; omega)))
              have ch := Chg.set (w := w2) ⟨wo.heap.size, 0, none⟩ (.slice Av ((askU g.2.2 p j).length + 1) cv)
              go_wp2
              go_roundw
              case rel =>
                refine ⟨j + 1, .slice Av ((askU g.2.2 p j).length + 1) cv, .slice Ag (giveU g.2.2 p j).length cg, by omega, by go_num, bX2.set_ 0 _, ?_, ?_, ?_, ?_⟩
                · rw [XA.out]; exact ho2.chg ch (fun y hy e => by have h5 : y = wo.heap.size := e; have := (ho2.lt y hy).1; omega)
                · rw [XG.out]
                  exact (h1.chg hc2 (fun y hy hs => apart_not hap hs hy)).chg ch (fun y hy e => by have h5 : y = wo.heap.size := e; have := (h1.lt y hy).1; omega)
                · exact apart_grow2 hap hat2 (fun y hy => (h1.lt y hy).2)
                · exact (hb.trans (hb2.mono (by omega))).trans (ch.below (by have := hb2.size; omega) (fun x hx => by have h5 : x = wo.heap.size := hx; omega))
              case measure => simp [intOf]; omega
            · have XA := Lib.hid (askU_no he)
              have e1 : (gi g.2.2 j == p) = false := by simp [he]
              by_cases hg1 : p < gi g.2.2 j
              · have e2 : decide (p < gi g.2.2 j) = true := decide_eq_true hg1
                by_cases hg2 : gi g.2.2 j % 2 = 0
                · have XG := Lib.hid (giveU_yes hg1 hg2)
                  have e4 : (gi g.2.2 j % 2 == 0) = true := by simp [hg2]
                  clear he hg2 hpr
                  go_wp2_with (at_builtin; refine wpList_pushI rfl (.tmp 55) (.tmp 57) rfl _ (wo.heap.size + 1) _ (giveU g.2.2 p j) (by rfl) h1 _ (by rfl) (by omega) (by omega) ?_; intro v2 w2 ho2 hb2 hc2 hat2; obtain ⟨Av, cv, h1e⟩ := ho2.form; have h1f : v2 = .slice Av ((giveU g.2.2 p j).length + 1) cv := (by rw [h1e]; simp); clear h1e; subst h1f; have bX2 := bX.below hb2 (by omega); have f12 := bX2.hot 1; have d02 := bX2.d0; have d12 := bX2.d1)
                  go_wp2
                  go_roundw
                  case rel =>
                    have ch := Chg.set (w := w2) ⟨wo.heap.size, 1, none⟩ (.slice Av ((giveU g.2.2 p j).length + 1) cv)
                    refine ⟨j + 1, .slice Aa (askU g.2.2 p j).length ca, .slice Av ((giveU g.2.2 p j).length + 1) cv, by omega, by go_num, bX2.set_ 1 _, ?_, ?_, ?_, ?_⟩
                    · rw [XA.out]
                      exact (h0.chg hc2 (fun y hy hs => apart_not hap hy hs)).chg ch (fun y hy e => by have h5 : y = wo.heap.size := e; have := (h0.lt y hy).1; omega)
                    · rw [XG.out]; exact ho2.chg ch (fun y hy e => by have h5 : y = wo.heap.size := e; have := (ho2.lt y hy).1; omega)
                    · exact (apart_grow2 hap.symm hat2 (fun y hy => (h0.lt y hy).2)).symm
                    · exact (hb.trans (hb2.mono (by omega))).trans (ch.below (by have := hb2.size; omega) (fun x hx => by have h5 : x = wo.heap.size := hx; omega))
                  case measure => simp [intOf]; omega
                · have XG := Lib.hid (giveU_no2 (p := p) hg2)
                  have e4 : (gi g.2.2 j % 2 == 0) = false := by simp [hg2]
                  clear he hg2 hpr
                  go_wp2
                  go_roundw
                  case rel => exact ⟨j + 1, _, _, by omega, by go_num, bX, by rw [XA.out]; exact h0, by rw [XG.out]; exact h1, hap, hb⟩
                  case measure => simp [intOf]; omega
              · have XG := Lib.hid (giveU_no1 (pr := g.2.2) (p := p) (k := j) hg1)
                have e2 : decide (p < gi g.2.2 j) = false := decide_eq_false hg1
                clear he hpr
                go_wp2
                go_roundw
                case rel => exact ⟨j + 1, _, _, by omega, by go_num, bX, by rw [XA.out]; exact h0, by rw [XG.out]; exact h1, hap, hb⟩
                case measure => simp [intOf]; omega
          · obtain rfl : j = n2 := by omega
            have hW : Chg (fun b => b < w.heap.size + 1) wo wr := (Chg.refl _ _).then_below hb (Nat.le_refl _)
            have d0 := bX.d0; have d1 := bX.d1
            by_cases hne : 0 < (askU g.2.2 p j).length
            · have XP := Lib.hid (show ppS g.2.2 (k + 1) = ppS g.2.2 k ++ [(askU g.2.2 p j, giveU g.2.2 p j)] by
                have h := HYES.out (by rw [HP.out]; exact hne)
                unfold pairOf at h
                rw [HP.out] at h
                exact h)
              go_wp2_with (at_builtin; refine wpList_pushP2 rfl (.tmp 64) (.tmp 66) rfl wo _ (w.heap.size + 1) _ (ppS g.2.2 k) _ _ (askU g.2.2 p j) (giveU g.2.2 p j) rfl rfl (by omega) hops hW (h0.more (by omega)) (h1.more (by omega)) hap (by omega) ?_; intro v4 w4 ho4 hb4 hch4)
              have bx4 := bxr.below hb4 (by omega)
              have hw4 : Below w.heap.size w w4 := (below_then hb hw.size hw).trans (hb4.mono (by omega))
              go_wp2
              exact ⟨⟨k + 1, by omega, by rw [← HPK.out]; go_num, by rw [XP.out]; exact ho4, bx4, hw4⟩, by rw [← HPK.out]; simp [intOf]; omega⟩
            · have XP := Lib.hid (show ppS g.2.2 (k + 1) = ppS g.2.2 k from HNO.out (by rw [HP.out]; exact hne))
              have hn0 : (askU g.2.2 p j).length = 0 := by omega
              go_wp2
              exact ⟨⟨k + 1, by omega, by rw [← HPK.out]; go_num, by rw [XP.out]; exact (hops.chg hW (fun _ h => h)), bxr, below_then hb hw.size hw⟩, by rw [← HPK.out]; simp [intOf]; omega⟩
      · obtain rfl : k = 20 := by omega
        have hle : ¬ (2 * ((20 : Nat) : Int) + 1 ≤ 40) := by omega
        by_cases h4 : (ppS g.2.2 20).length ≤ 4
        · have E := Lib.hid (okPP_yes HB.out h4)
          have h5 : ¬ 4 < (ppS g.2.2 20).length := by omega
          go_wp2
          go_ret2
          exact ⟨.slice Ao (ppS g.2.2 20).length co, by rw [E.out]; rfl, by rw [ppR_yes E.out]; exact hops.more (Nat.le_succ_of_le hB), hw.mono hB⟩
        · have E := Lib.hid (okPP_no2 h4)
          have h5 : 4 < (ppS g.2.2 20).length := by omega
          clear h4
          go_wp2
          go_ret2
          exact ⟨.slice (some ⟨wo.heap.size, 0, none⟩) 0 0, by rw [E.out]; rfl, by rw [ppR_no E.out]; exact OPS.empty (Nat.le_trans hB hw.size), (hw.trans (below_alloc (o := .cells #[] 128) hw.size (Below.refl _ _))).mono hB⟩

end Go.Proofs.Ytefjhkcafcchlaa
