/- AnswerText, spec and impl: contracts. -/
import Derived.Test.YtkhkdnmpbfmmeaaDoorPlanT
import Derived.Test.YtkhkdnmpbfmmeaaDoorBytes
import Derived.Test.YtkhkdnmpbfmmeaaDoorLine
import Derived.Test.YtkhkdnmpbfmmeaaDoorTwo
import Derived.Deep.RegionHeld3
namespace Go.Proofs.YtkhkdnmpbfmmeaaDoor
open Go.RowKit

/-- the lines of an answer's first k vertices -/
def ansUp (z : TwoD) : Nat → List UInt8
  | 0 => []
  | k + 1 => ansUp z k ++ (wo (gi z.1 k) ++ [32] ++ mkT (gi z.2 k) ++ [10])
def ansT (z : TwoD) : List UInt8 := if shapeOk z.1 z.2 = true then ansUp z z.1.length else []
theorem ansT_no {z : TwoD} (h : shapeOk z.1 z.2 = false) : ansT z = [] := by unfold ansT; rw [h]; rfl
theorem ansT_yes {z : TwoD} (h : shapeOk z.1 z.2 = true) : ansT z = ansUp z z.1.length := if_pos h
theorem ansUp_len (z : TwoD) (hp : ∀ i, i < z.2.length → gi z.2 i < 256) : ∀ k, k ≤ z.2.length → (ansUp z k).length ≤ 15 * k
  | 0, _ => by simp [ansUp]
  | k + 1, hk => by
    have ih := ansUp_len z hp k (by omega)
    have h1 := wo_len (gi z.1 k)
    have h2 := mkT_len (show gi z.2 k < 1000000000 by have := hp k (by omega); omega)
    unfold ansUp
    rw [List.length_append, List.length_append, List.length_append, List.length_append, List.length_singleton, List.length_singleton]
    omega

set_option maxRecDepth 100000 in
set_option maxHeartbeats 1600000 in
theorem specAnswerText (s0 s1 : Value) (z : TwoD) (w : World) (B : Nat) (hB : B ≤ w.heap.size) (ha : RTv w s0 s1 z) :
    Calls Tryd.prog 13 #[.agg #[s0, s1]] w fun e w' => e = .returned (.string (tx (ansT z))) ∧ Below B w w' := by
  obtain ⟨A0, n0, c0, A1, n1, c1, rfl, rfl⟩ := ha.form
  have b1 := ha.r1.cap; have b2 := ha.r1.top; have b3 := ha.r2.cap; have b4 := ha.r2.top
  have HL := Lib.hid ha.r1.len; have HM := Lib.hid ha.r2.len
  have bx := Box.new w 27 #[.slice A0 n0 c0, .slice A1 n1 c1]
  have hwL : Below w.heap.size w (w.alloc (.cells #[.slice A0 n0 c0, .slice A1 n1 c1] 27)) := below_alloc (Nat.le_refl _) (Below.refl _ _)
  have q0 : (w.alloc (.cells #[.slice A0 n0 c0, .slice A1 n1 c1] 27)).cell? ⟨w.heap.size, 0, none⟩ = some (.slice A0 n0 c0) := bx.cell 0
  have q1 : (w.alloc (.cells #[.slice A0 n0 c0, .slice A1 n1 c1] 27)).cell? ⟨w.heap.size, 1, none⟩ = some (.slice A1 n1 c1) := bx.cell 1
  cases hs : shapeOk z.1 z.2 with
  | false =>
    have E := Lib.hid (ansT_no hs)
    have HH := Lib.hid hs
    clear hs
    go_enter Tryd.func13, Tryd.ntmps13
    go_wp2_with fail
    refine (specShapeOk _ _ _ _ _ _ _ _ _ _ (Nat.le_refl _) (ha.r1.keep (keeps_below hwL)) (ha.r2.keep (keeps_below hwL))).mono ?_; rintro e w1 ⟨rfl, hb1⟩
    rw [HH.out]
    go_wp2
    go_ret
    exact ⟨by rw [E.out]; rfl, (below_then hb1 hwL.size hwL).mono hB⟩
  | true =>
    have hs' := of_decide_eq_true hs
    have hn : n0 ≤ 256 := by have := hs'.1; rw [HL.out] at this; exact this
    have hnm : n0 = n1 := by have := hs'.2.1; rw [HL.out, HM.out] at this; exact this
    have HPl := Lib.hid (fun i (hi : i < n1) => hs'.2.2.2 _ (gi_mem (show i < z.2.length by rw [HM.out]; exact hi)))
    have E := Lib.hid (ansT_yes hs)
    have HH := Lib.hid hs
    have HE := Lib.hid (ansUp_len z (fun i hi => by have := hs'.2.2.2 _ (gi_mem hi); omega))
    subst hnm
    clear hs hs'
    go_enter Tryd.func13, Tryd.ntmps13
    go_wp2_with fail
    refine (specShapeOk _ _ _ _ _ _ _ _ _ _ (Nat.le_refl _) (ha.r1.keep (keeps_below hwL)) (ha.r2.keep (keeps_below hwL))).mono ?_; rintro e w1 ⟨rfl, hb1⟩
    rw [HH.out]
    have bx1 := bx.below hb1 bx.lt
    have k0 : w1.cell? ⟨w.heap.size, 0, none⟩ = some (.slice A0 n0 c0) := bx1.cell 0
    have k1 : w1.cell? ⟨w.heap.size, 1, none⟩ = some (.slice A1 n0 c1) := bx1.cell 1
    have hw1 := below_then hb1 hwL.size hwL
    have hs1 : w.heap.size + 1 ≤ w1.heap.size := bx1.lt
    clear q0 q1
    go_wp2
    go_loopw [3, 4] (fun v i wr => ∃ k : Nat, k ≤ n0 ∧ i = .int .i64 k ∧ OBy wr (w.heap.size + 1) v (ansUp z k) ∧ Below w.heap.size w wr ∧ Box wr w.heap.size 27 #[.slice A0 n0 c0, .slice A1 n0 c1]) (fun _ i _ => n0 - (intOf i).toNat)
    case atStart => exact ⟨0, Nat.zero_le _, rfl, OBy.empty hs1, below_alloc (Nat.le_refl _) hw1, bx1.alloc _⟩
    case round =>
      obtain ⟨k, hk, rfl, ho, hbr, hbx⟩ := hrel
      have hsz := hbr.size
      have hbl := hbx.lt
      have m0 : wr.cell? ⟨w.heap.size, 0, none⟩ = some (.slice A0 n0 c0) := hbx.cell 0
      have m1 : wr.cell? ⟨w.heap.size, 1, none⟩ = some (.slice A1 n0 c1) := hbx.cell 1
      obtain ⟨Av, cv, rfl⟩ := ho.form
      have hvc := ho.cap
      by_cases hlt : k < n0
      · obtain ⟨b, off, rfl, hc1⟩ := ha.r1.at_ hlt
        obtain ⟨b', off', rfl, hc2⟩ := ha.r2.at_ hlt
        have l1 := World.block_lt_of_cell? w _ hc1
        have l2 := World.block_lt_of_cell? w _ hc2
        simp only at l1 l2
        have HS : ∀ w', Below (w.heap.size + 1) wr w' → (w'.cell? ⟨w.heap.size, 0, none⟩ = some (.slice (some ⟨b, off, none⟩) n0 c0) ∧ w'.cell? ⟨w.heap.size, 1, none⟩ = some (.slice (some ⟨b', off', none⟩) n0 c1) ∧ w'.cell? ⟨b, off + k, none⟩ = some (.int .i64 (gi z.1 k)) ∧ w'.cell? ⟨b', off' + k, none⟩ = some (.int .i64 (gi z.2 k))) := fun w' h => by
          have bx' := hbx.below h (by omega)
          exact ⟨bx'.cell 0, bx'.cell 1, (h.cell (p := ⟨b, off + k, none⟩) (by show b < _; omega)).trans (keeps_below hbr _ _ hc1), (h.cell (p := ⟨b', off' + k, none⟩) (by show b' < _; omega)).trans (keeps_below hbr _ _ hc2)⟩
        obtain ⟨u0, u1, u2, u3⟩ := HS wr (Below.refl _ _)
        have H3 := Lib.hid HS
        have HP1 := HPl.out k hlt
        have HP2 := Lib.hid HP1
        have hmk : (tx (mkT (gi z.2 k))).size ≤ 9 := by rw [tx_size]; exact mkT_len (by omega)
        have hwo : (tx (wo (gi z.1 k))).size ≤ 4 := by rw [tx_size]; exact wo_len _
        have z1 : (tx (wo (gi z.1 k))).size + 1 ≤ 9223372036854775807 := by omega
        have z2 : (tx (wo (gi z.1 k))).size + 1 + (tx (mkT (gi z.2 k))).size ≤ 9223372036854775807 := by omega
        have y1 : ¬ 9223372036854775807 < (tx (wo (gi z.1 k))).size + 1 := by omega
        have y2 : ¬ 9223372036854775807 < (tx (wo (gi z.1 k))).size + 1 + (tx (mkT (gi z.2 k))).size := by omega
        have hcat : Value.string (tx (wo (gi z.1 k)) ++ { data := #[32] } ++ tx (mkT (gi z.2 k))) = .string (tx (wo (gi z.1 k) ++ [32] ++ mkT (gi z.2 k))) := by
          show Value.string (tx _ ++ tx [32] ++ tx _) = _
          rw [tx_app, tx_app]
        have HC := Lib.hid hcat
        have hll : (ansUp z k).length ≤ 4194304 := by have := HE.out k (by rw [HM.out]; exact hk); omega
        have hml : (wo (gi z.1 k) ++ [32] ++ mkT (gi z.2 k)).length ≤ 4194304 := by
          rw [tx_size] at hmk hwo
          rw [List.length_append, List.length_append, List.length_singleton]
          omega
        have hlo : w.heap.size + 1 ≤ wr.heap.size := hbl
        clear HS hc1 hc2 m0 m1 hmk hwo HP1 hcat
        go_wp2_with fail
        go_region_held3 (fun w' => w'.cell? ⟨w.heap.size, 0, none⟩ = some (.slice (some ⟨b, off, none⟩) n0 c0) ∧ w'.cell? ⟨w.heap.size, 1, none⟩ = some (.slice (some ⟨b', off', none⟩) n0 c1) ∧ w'.cell? ⟨b, off + k, none⟩ = some (.int .i64 (gi z.1 k)) ∧ w'.cell? ⟨b', off' + k, none⟩ = some (.int .i64 (gi z.2 k)))
          (refine ⟨?_, ?_, ?_, ?_⟩ <;> repeat (first | with_reducible assumption | with_reducible refine keepD ?_ | with_reducible refine keepA ?_))
          (first
            | (go_at_call 49; refine (l13WhoB _ _).mono ?_; rintro e w2 ⟨rfl, hb2⟩; have hx2 : Below wr.heap.size wr w2 := below_undrew hb2; obtain ⟨d0, d1, d2, d3⟩ := H3.out w2 (hx2.mono hlo))
            | (go_at_call 50; refine (l13Mark _ _ HP2.out.1 (by have := HP2.out.2; omega) _ (Nat.le_refl _)).mono ?_; rintro e w3 ⟨rfl, hb3⟩; have hx3 : Below wr.heap.size wr w3 := below_then hb3 hx2.size hx2; obtain ⟨e0, e1, e2, e3⟩ := H3.out w3 (hx3.mono hlo))
            | (refine step_of_list (by rfl) (wp_appStr (.tmp 16) (.tmp 30) (by rfl) w3 (w.heap.size + 1) (.slice Av (ansUp z k).length cv) (ansUp z k) (by rfl) (ho.below hx3) (wo (gi z.1 k) ++ [32] ++ mkT (gi z.2 k)) (by exact HC.out) hll hml (Nat.le_trans hlo hx3.size) ?_); intro v' w4 ho4 hb4 hc4; have hx4 : Below (w.heap.size + 1) wr w4 := (hx3.mono hlo).trans hb4; obtain ⟨g0, g1, g2, g3⟩ := H3.out w4 hx4))
        have hll4 : (ansUp z k ++ (wo (gi z.1 k) ++ [32] ++ mkT (gi z.2 k))).length ≤ 4194304 := by rw [List.length_append]; have := HE.out k (by rw [HM.out]; exact hk); have := mkT_len (show gi z.2 k < 1000000000 by have := HP2.out.2; omega); have := wo_len (gi z.1 k); rw [List.length_append, List.length_append, List.length_singleton]; omega
        generalize hL4 : ansUp z k ++ (wo (gi z.1 k) ++ [32] ++ mkT (gi z.2 k)) = L4 at ho4 hll4
        have HL4 := Lib.hid hL4
        clear hL4
        obtain ⟨A4, c4, rfl⟩ := ho4.form
        have hs4 := hx4.size
        go_wp2_with (at_builtin; refine wpList_pushU rfl (.tmp 32) (.tmp 33) rfl w4 (w.heap.size + 1) (.slice A4 L4.length c4) L4 rfl ho4 10 10 rfl rfl hll4 (Nat.le_trans hlo hs4) ?_; intro v5 w5 ho5 hb5 hc5)
        have hx5 : Below (w.heap.size + 1) wr w5 := hx4.trans hb5
        have hbw : Below w.heap.size w w5 := hbr.trans (hx5.mono (by omega))
        go_roundw
        case rel => exact ⟨k + 1, by omega, by go_num, by unfold ansUp; rw [← HL4.out, List.append_assoc] at ho5; exact ho5, hbw, hbx.below hx5 (by omega)⟩
        case measure => simp [intOf]; omega
      · obtain rfl : k = n0 := by omega
        have hcv := conv_bytes ho
        go_wp2
        go_ret
        exact ⟨by rw [E.out, HL.out]; rfl, hbr.mono hB⟩
set_option maxRecDepth 100000 in
set_option maxHeartbeats 1600000 in
theorem implAnswerText (s0 s1 : Value) (z : TwoD) (w : World) (B : Nat) (hB : B ≤ w.heap.size) (hT : Tab w) (hP : PN w) (ha : RTv w s0 s1 z) :
    Calls Tryd.prog 15 #[.agg #[s0, s1]] w fun e w' => e = .returned (.string (tx (ansT z))) ∧ Below B w w' := by
  obtain ⟨A0, n0, c0, A1, n1, c1, rfl, rfl⟩ := ha.form
  have b1 := ha.r1.cap; have b2 := ha.r1.top; have b3 := ha.r2.cap; have b4 := ha.r2.top
  have HL := Lib.hid ha.r1.len; have HM := Lib.hid ha.r2.len
  have bx := Box.new w 27 #[.slice A0 n0 c0, .slice A1 n1 c1]
  have hwL : Below w.heap.size w (w.alloc (.cells #[.slice A0 n0 c0, .slice A1 n1 c1] 27)) := below_alloc (Nat.le_refl _) (Below.refl _ _)
  have q0 : (w.alloc (.cells #[.slice A0 n0 c0, .slice A1 n1 c1] 27)).cell? ⟨w.heap.size, 0, none⟩ = some (.slice A0 n0 c0) := bx.cell 0
  have q1 : (w.alloc (.cells #[.slice A0 n0 c0, .slice A1 n1 c1] 27)).cell? ⟨w.heap.size, 1, none⟩ = some (.slice A1 n1 c1) := bx.cell 1
  cases hs : shapeOk z.1 z.2 with
  | false =>
    have E := Lib.hid (ansT_no hs)
    have HH := Lib.hid hs
    clear hs
    go_enter Tryd.func15, Tryd.ntmps15
    go_wp2_with fail
    refine (isShape _ _ _ _ _ _ _ _ _ _ (Nat.le_refl _) (ha.r1.keep (keeps_below hwL)) (ha.r2.keep (keeps_below hwL))).mono ?_; rintro e w1 ⟨rfl, hb1⟩
    rw [HH.out]
    go_wp2
    go_ret
    exact ⟨by rw [E.out]; rfl, (below_then hb1 hwL.size hwL).mono hB⟩
  | true =>
    have hs' := of_decide_eq_true hs
    have hn : n0 ≤ 256 := by have := hs'.1; rw [HL.out] at this; exact this
    have hnm : n0 = n1 := by have := hs'.2.1; rw [HL.out, HM.out] at this; exact this
    have HPl := Lib.hid (fun i (hi : i < n1) => hs'.2.2.2 _ (gi_mem (show i < z.2.length by rw [HM.out]; exact hi)))
    have HWn := Lib.hid (fun i (hi : i < n0) => hs'.2.2.1 _ (gi_mem (show i < z.1.length by rw [HL.out]; exact hi)))
    have E := Lib.hid (ansT_yes hs)
    have HH := Lib.hid hs
    have HE := Lib.hid (ansUp_len z (fun i hi => by have := hs'.2.2.2 _ (gi_mem hi); omega))
    subst hnm
    clear hs hs'
    go_enter Tryd.func15, Tryd.ntmps15
    go_wp2_with fail
    refine (isShape _ _ _ _ _ _ _ _ _ _ (Nat.le_refl _) (ha.r1.keep (keeps_below hwL)) (ha.r2.keep (keeps_below hwL))).mono ?_; rintro e w1 ⟨rfl, hb1⟩
    rw [HH.out]
    have bx1 := bx.below hb1 bx.lt
    have k0 : w1.cell? ⟨w.heap.size, 0, none⟩ = some (.slice A0 n0 c0) := bx1.cell 0
    have k1 : w1.cell? ⟨w.heap.size, 1, none⟩ = some (.slice A1 n0 c1) := bx1.cell 1
    have hw1 := below_then hb1 hwL.size hwL
    have hs1 : w.heap.size + 1 ≤ w1.heap.size := bx1.lt
    clear q0 q1
    go_wp2
    go_loopw [3, 12] (fun v i wr => ∃ k : Nat, k ≤ n0 ∧ i = .int .i64 k ∧ v = .string (tx (ansUp z k)) ∧ Below w.heap.size w wr ∧ Box wr w.heap.size 27 #[.slice A0 n0 c0, .slice A1 n0 c1]) (fun _ i _ => n0 - (intOf i).toNat)
    case atStart => exact ⟨0, Nat.zero_le _, rfl, rfl, hw1, bx1⟩
    case round =>
      obtain ⟨k, hk, rfl, rfl, hbr, hbx⟩ := hrel
      have hsz := hbr.size
      have hbl := hbx.lt
      have hTr := hT.below hbr
      by_cases hlt : k < n0
      · obtain ⟨b, off, rfl, hc1⟩ := ha.r1.at_ hlt
        obtain ⟨b', off', rfl, hc2⟩ := ha.r2.at_ hlt
        have HS : ∀ w', Below wr.heap.size wr w' → (w'.cell? ⟨w.heap.size, 0, none⟩ = some (.slice (some ⟨b, off, none⟩) n0 c0) ∧ w'.cell? ⟨w.heap.size, 1, none⟩ = some (.slice (some ⟨b', off', none⟩) n0 c1) ∧ w'.cell? ⟨b, off + k, none⟩ = some (.int .i64 (gi z.1 k)) ∧ w'.cell? ⟨b', off' + k, none⟩ = some (.int .i64 (gi z.2 k)) ∧ w'.cell? ⟨0, 0, none⟩ = some (.string { data := #[101, 118, 101, 110] }) ∧ w'.cell? ⟨0, 1, none⟩ = some (.string { data := #[111, 100, 100] })) := fun w' h => by
          have bx' := hbx.below h hbl
          have K := (keeps_below hbr).trans (keeps_below h)
          exact ⟨bx'.cell 0, bx'.cell 1, K _ _ hc1, K _ _ hc2, K _ _ hP.1, K _ _ hP.2⟩
        obtain ⟨u0, u1, u2, u3, u4, u5⟩ := HS wr (Below.refl _ _)
        have H3 := Lib.hid HS
        have HP1 := HPl.out k hlt
        have HP2 := Lib.hid HP1
        have hmk : (tx (mkT (gi z.2 k))).size ≤ 9 := by rw [tx_size]; exact mkT_len (by omega)
        have hau : (tx (ansUp z k)).size ≤ 4000 := by rw [tx_size]; have := HE.out k (by rw [HM.out]; exact hk); omega
        have z1 : 4 + 1 + (tx (mkT (gi z.2 k))).size ≤ 9223372036854775807 := by omega
        have z2 : 4 + 1 + (tx (mkT (gi z.2 k))).size + 1 ≤ 9223372036854775807 := by omega
        have z3 : (tx (ansUp z k)).size + (4 + 1 + (tx (mkT (gi z.2 k))).size + 1) ≤ 9223372036854775807 := by omega
        have x1 : ¬ 9223372036854775807 < 5 + (tx (mkT (gi z.2 k))).size := by omega
        have x2 : ¬ 9223372036854775807 < 5 + (tx (mkT (gi z.2 k))).size + 1 := by omega
        have x3 : ¬ 9223372036854775807 < (tx (ansUp z k)).size + (5 + (tx (mkT (gi z.2 k))).size + 1) := by omega
        have v1 : ¬ 9223372036854775807 < 4 + (tx (mkT (gi z.2 k))).size := by omega
        have v2 : ¬ 9223372036854775807 < 4 + (tx (mkT (gi z.2 k))).size + 1 := by omega
        have v3 : ¬ 9223372036854775807 < (tx (ansUp z k)).size + (4 + (tx (mkT (gi z.2 k))).size + 1) := by omega
        have hwn := HWn.out k hlt
        have HU : Hid (ansUp z (k + 1) = ansUp z k ++ (wo (gi z.1 k) ++ [32] ++ mkT (gi z.2 k) ++ [10])) := Lib.hid rfl
        clear HS hc1 hc2 hmk hau HP1
        generalize gi z.1 k = o at *
        rcases hwn with rfl | rfl
        · go_wp2_with fail
          go_region_held3 (fun w' => w'.cell? ⟨w.heap.size, 0, none⟩ = some (.slice (some ⟨b, off, none⟩) n0 c0) ∧ w'.cell? ⟨w.heap.size, 1, none⟩ = some (.slice (some ⟨b', off', none⟩) n0 c1) ∧ w'.cell? ⟨b, off + k, none⟩ = some (.int .i64 0) ∧ w'.cell? ⟨b', off' + k, none⟩ = some (.int .i64 (gi z.2 k)) ∧ w'.cell? ⟨0, 0, none⟩ = some (.string { data := #[101, 118, 101, 110] }) ∧ w'.cell? ⟨0, 1, none⟩ = some (.string { data := #[111, 100, 100] }))
            (refine ⟨?_, ?_, ?_, ?_, ?_, ?_⟩ <;> repeat (first | with_reducible assumption | with_reducible refine keepD ?_ | with_reducible refine keepA ?_))
            ((go_at_call 52; refine (entryText _ _ HP2.out.1 (by have := HP2.out.2; omega) _ (Nat.le_refl _) (by exact hTr.below (Below.drew (Below.refl _ _)))).mono ?_; rintro e w3 ⟨rfl, hb3⟩; have hx3 : Below wr.heap.size wr w3 := below_undrew hb3; obtain ⟨e0, e1, e2, e3, e4, e5⟩ := H3.out w3 hx3))
          have hbw := below_then hx3 hsz hbr
          go_wp2
          refine ⟨⟨k + 1, by omega, by go_num, ?_, hbw, hbx.below hx3 hbl⟩, ?_⟩
          · show Value.string (tx (ansUp z k) ++ (tx (wo 0) ++ tx [32] ++ tx (mkT (gi z.2 k)) ++ tx [10])) = _
            rw [tx_app, tx_app, tx_app, tx_app, HU.out]
          · simp [intOf]; omega
        · go_wp2_with fail
          go_region_held3 (fun w' => w'.cell? ⟨w.heap.size, 0, none⟩ = some (.slice (some ⟨b, off, none⟩) n0 c0) ∧ w'.cell? ⟨w.heap.size, 1, none⟩ = some (.slice (some ⟨b', off', none⟩) n0 c1) ∧ w'.cell? ⟨b, off + k, none⟩ = some (.int .i64 1) ∧ w'.cell? ⟨b', off' + k, none⟩ = some (.int .i64 (gi z.2 k)) ∧ w'.cell? ⟨0, 0, none⟩ = some (.string { data := #[101, 118, 101, 110] }) ∧ w'.cell? ⟨0, 1, none⟩ = some (.string { data := #[111, 100, 100] }))
            (refine ⟨?_, ?_, ?_, ?_, ?_, ?_⟩ <;> repeat (first | with_reducible assumption | with_reducible refine keepD ?_ | with_reducible refine keepA ?_))
            ((go_at_call 52; refine (entryText _ _ HP2.out.1 (by have := HP2.out.2; omega) _ (Nat.le_refl _) (by exact hTr.below (Below.drew (Below.refl _ _)))).mono ?_; rintro e w3 ⟨rfl, hb3⟩; have hx3 : Below wr.heap.size wr w3 := below_undrew hb3; obtain ⟨e0, e1, e2, e3, e4, e5⟩ := H3.out w3 hx3))
          have hbw := below_then hx3 hsz hbr
          go_wp2
          refine ⟨⟨k + 1, by omega, by go_num, ?_, hbw, hbx.below hx3 hbl⟩, ?_⟩
          · show Value.string (tx (ansUp z k) ++ (tx (wo 1) ++ tx [32] ++ tx (mkT (gi z.2 k)) ++ tx [10])) = _
            rw [tx_app, tx_app, tx_app, tx_app, HU.out]
          · simp [intOf]; omega
      · obtain rfl : k = n0 := by omega
        go_wp2
        go_ret
        exact ⟨by rw [E.out, HL.out]; rfl, hbr.mono hB⟩
end Go.Proofs.YtkhkdnmpbfmmeaaDoor
