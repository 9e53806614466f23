/- GameText, spec and impl: contracts. -/
import Derived.Test.YtkhkdnmpbfmmeaaDoorVtxT
import Derived.Test.YtkhkdnmpbfmmeaaDoorBz
import Derived.Test.YtkhkdnmpbfmmeaaDoorHeadT
namespace Go.Proofs.YtkhkdnmpbfmmeaaDoor
open Go.RowKit

/-- the text of a game as far as its first k vertices; the whole of it -/
def gmUp (g : ParD) : Nat → List UInt8
  | 0 => gmB ++ Lib.decDigits g.1.length ++ [10]
  | k + 1 => gmUp g k ++ (vtx g k ++ [10])
noncomputable def gmT (g : ParD) : List UInt8 := if parB g = true then gmUp g g.1.length else []
theorem gmT_no {g : ParD} (h : parB g = false) : gmT g = [] := by unfold gmT; rw [h]; rfl
theorem gmT_yes {g : ParD} (h : parB g = true) : gmT g = gmUp g g.1.length := if_pos h
theorem vtx_len {g : ParD} (h : finePar g) {v : Nat} (hv : v < g.1.length) : (vtx g v).length ≤ 174 := by
  obtain ⟨⟨f1, f2, f3, f4⟩, f5, f6⟩ := h
  obtain ⟨-, ⟨x0, x1⟩, xs⟩ := f4 v hv
  obtain ⟨p0, p1⟩ := f6 v (by omega)
  have hu : ∀ u ∈ gl g.2.1 v, 0 ≤ u ∧ u < 256 := fun u hu => by have := set_all xs u hu; omega
  have h1 := tlx_len hu (gl g.2.1 v).length (Nat.le_refl _)
  rw [List.take_length] at h1
  have h2 := dec_len9 (u := (gi g.2.2 v).toNat) (by omega)
  have h3 := wo_len (gi g.1 v)
  rw [vtx_eq x0, List.length_append, List.length_append, List.length_append, List.length_singleton]
  omega
theorem gmUp_len {g : ParD} (h : finePar g) : ∀ k, k ≤ g.1.length → (gmUp g k).length ≤ 15 + 175 * k
  | 0, _ => by
    have := dec_len9 (u := g.1.length) (by have := h.1.2.1; omega)
    unfold gmUp
    rw [List.length_append, List.length_append, List.length_singleton, show gmB.length = 5 from rfl]
    omega
  | k + 1, hk => by
    have h1 := gmUp_len h k (by omega)
    have h2 := vtx_len h (v := k) (by omega)
    unfold gmUp
    rw [List.length_append, List.length_append, List.length_singleton]
    omega
theorem gm_head (n : Nat) : ({ data := #[103, 97, 109, 101, 32] } : ByteArray) ++ tx (Lib.decDigits n) ++ { data := #[10] } = tx (gmB ++ Lib.decDigits n ++ [10]) := by
  show tx gmB ++ tx _ ++ tx [10] = _
  rw [tx_app, tx_app]
set_option maxRecDepth 100000 in
set_option maxHeartbeats 1600000 in
theorem specGameText (s0 s1 s2 : Value) (g : ParD) (w : World) (B : Nat) (hB : B ≤ w.heap.size) (ha : RPv w s0 s1 s2 g) :
    Calls Tryd.prog 36 #[.agg #[s0, s1, s2]] w fun e w' => e = .returned (.string (tx (gmT g))) ∧ Below B w w' := by
  obtain ⟨A0, n0, c0, A1, n1, c1, A2, n2, c2, rfl, rfl, rfl⟩ := ha.form
  have b1 := ha.ri.cap; have b2 := ha.ri.top; have b5 := ha.rp.cap; have b6 := ha.rp.top
  have HL := Lib.hid ha.ri.len; have HP := Lib.hid ha.rp.len
  have bx := Box.new w 54 #[.slice A0 n0 c0, .slice A1 n1 c1, .slice A2 n2 c2]
  have hwL : Below w.heap.size w (w.alloc (.cells #[.slice A0 n0 c0, .slice A1 n1 c1, .slice A2 n2 c2] 54)) := below_alloc (Nat.le_refl _) (Below.refl _ _)
  have q0 : (w.alloc (.cells #[.slice A0 n0 c0, .slice A1 n1 c1, .slice A2 n2 c2] 54)).cell? ⟨w.heap.size, 0, none⟩ = some (.slice A0 n0 c0) := bx.cell 0
  have q1 : (w.alloc (.cells #[.slice A0 n0 c0, .slice A1 n1 c1, .slice A2 n2 c2] 54)).cell? ⟨w.heap.size, 1, none⟩ = some (.slice A1 n1 c1) := bx.cell 1
  have q2 : (w.alloc (.cells #[.slice A0 n0 c0, .slice A1 n1 c1, .slice A2 n2 c2] 54)).cell? ⟨w.heap.size, 2, none⟩ = some (.slice A2 n2 c2) := bx.cell 2
  cases hp : parB g with
  | false =>
    have E := Lib.hid (gmT_no hp)
    have HH := Lib.hid hp
    clear hp
    go_enter Tryd.func36, Tryd.ntmps36
    go_wp2_with fail
    refine (specParityOk _ _ _ _ _ _ (Nat.le_refl _) (ha.keep (keeps_below hwL))).mono ?_; rintro e w1 ⟨rfl, hb1⟩
    rw [HH.out]
    go_wp2
    go_ret
    exact ⟨by rw [E.out]; rfl, (below_then hb1 hwL.size hwL).mono hB⟩
  | true =>
    have hf := finePar_of hp
    have HH := Lib.hid hp
    have HF := Lib.hid hf
    have E := Lib.hid (gmT_yes hp)
    have hn2 : n2 = n0 := by have := hf.2.1; rw [HP.out, HL.out] at this; exact this
    have hn0 : n0 ≤ 256 := by have := hf.1.2.1; rw [HL.out] at this; exact this
    subst hn2
    have HX := Lib.hid (fun k (hk : k < n2) => vtx_len hf (v := k) (by rw [HL.out]; exact hk))
    have HG := Lib.hid (fun k (hk : k ≤ n2) => gmUp_len hf k (by rw [HL.out]; exact hk))
    have h9 : n2 < 1000000000 := by omega
    have hd : (tx (Lib.decDigits n2)).size ≤ 9 := by rw [tx_size]; exact dec_len9 h9
    have z1 : 5 + (tx (Lib.decDigits n2)).size ≤ 9223372036854775807 := by omega
    have z2 : 5 + (tx (Lib.decDigits n2)).size + 1 ≤ 9223372036854775807 := by omega
    have HD : Hid ((gmB ++ Lib.decDigits n2 ++ [10]).length ≤ maxLen) := Lib.hid (by rw [tx_size] at hd; rw [List.length_append, List.length_append, List.length_singleton, show gmB.length = 5 from rfl]; unfold maxLen; omega)
    clear hp hf hd
    go_enter Tryd.func36, Tryd.ntmps36
    go_wp2_with fail
    refine (specParityOk _ _ _ _ _ _ (Nat.le_refl _) (ha.keep (keeps_below hwL))).mono ?_; rintro e w1 ⟨rfl, hb1⟩
    rw [HH.out]
    have bx1 := bx.below hb1 bx.lt
    have k0 : w1.cell? ⟨w.heap.size, 0, none⟩ = some (.slice A0 n2 c0) := bx1.cell 0
    have k1 : w1.cell? ⟨w.heap.size, 1, none⟩ = some (.slice A1 n1 c1) := bx1.cell 1
    have k2 : w1.cell? ⟨w.heap.size, 2, none⟩ = some (.slice A2 n2 c2) := bx1.cell 2
    have hw1 := below_then hb1 hwL.size hwL
    have hs1 : w.heap.size + 1 ≤ w1.heap.size := bx1.lt
    clear q0 q1 q2
    go_wp2_with fail
    refine (l1Int n2 _ h9 _ (Nat.le_refl _)).mono ?_; rintro e w2 ⟨rfl, hb2⟩
    have bx2 := bx1.below hb2 bx1.lt
    have hw2 := below_then hb2 hw1.size hw1
    have hs2 : w.heap.size + 1 ≤ w2.heap.size := Nat.le_trans hs1 hb2.size
    obtain ⟨vb, w3, hcv, ho3, hb3⟩ := conv_text w2 (gmB ++ Lib.decDigits n2 ++ [10]) HD.out
    rw [← gm_head] at hcv
    have bx3 := bx2.below hb3 bx2.lt
    have hw3 := below_then hb3 hw2.size hw2
    have ho3' : OBz w3 (w.heap.size + 1) vb (gmUp g 0) := by
      obtain ⟨gg, cap, cur, fr, h1, h2, h3⟩ := ho3
      unfold gmUp
      rw [HL.out]
      exact ⟨gg, cap, cur, fr, h1, by omega, h3⟩
    clear k0 k1 k2
    go_wp2
    go_loopw [3, 4] (fun v i wr => ∃ k : Nat, k ≤ n2 ∧ i = .int .i64 k ∧ OBz wr (w.heap.size + 1) v (gmUp g k) ∧ Below w.heap.size w wr ∧ Box wr w.heap.size 54 #[.slice A0 n2 c0, .slice A1 n1 c1, .slice A2 n2 c2]) (fun _ i _ => n2 - (intOf i).toNat)
    case atStart => exact ⟨0, Nat.zero_le _, rfl, ho3', hw3, bx3⟩
    case round =>
      clear bx1 bx2 bx3 ho3 ho3' hcv
      obtain ⟨k, hk, rfl, ho, hbr, hbx⟩ := hrel
      have hsz := hbr.size
      have hbl := hbx.lt
      have m0 : wr.cell? ⟨w.heap.size, 0, none⟩ = some (.slice A0 n2 c0) := hbx.cell 0
      have m1 : wr.cell? ⟨w.heap.size, 1, none⟩ = some (.slice A1 n1 c1) := hbx.cell 1
      have m2 : wr.cell? ⟨w.heap.size, 2, none⟩ = some (.slice A2 n2 c2) := hbx.cell 2
      obtain ⟨Av, cv, rfl⟩ := ho.form
      by_cases hlt : k < n2
      · have hll : (gmUp g k).length ≤ 4194304 := by have := HG.out k hk; omega
        have hvl : (vtx g k).length ≤ 4194304 := by have := HX.out k hlt; omega
        have HK := Lib.hid (show k < g.1.length by rw [HL.out]; exact hlt)
        have HU : Hid (gmUp g (k + 1) = gmUp g k ++ (vtx g k ++ [10])) := Lib.hid rfl
        have hll4 : (gmUp g k ++ vtx g k).length ≤ 4194304 := by rw [List.length_append]; have := HG.out k hk; have := HX.out k hlt; omega
        generalize gmUp g k = l at *
        go_wp2_with fail
        refine (l13Line _ _ _ _ _ _ _ (Nat.le_refl _) (ha.keep (keeps_below hbr)) HF.out HK.out).mono ?_; rintro e w4 ⟨rfl, hb4⟩
        have ho4 := ho.below hb4
        have bx4 := hbx.below hb4 hbl
        have hw4 := below_then hb4 hbr.size hbr
        have hs4 : w.heap.size + 1 ≤ w4.heap.size := Nat.le_trans hbl hb4.size
        clear m0 m1 m2
        go_wp2_with (first
          | (at_builtin
             refine wpList_appZ rfl (.tmp 22) (.tmp 25) rfl w4 (w.heap.size + 1) (.slice Av l.length cv) l rfl ho4 (vtx g k) rfl hll hvl hs4 ?_
             intro v5 w5 ho5 hb5 hc5
             obtain ⟨A5, c5, rfl⟩ := ho5.form
             obtain ⟨n5, hn5⟩ : ∃ n, (l ++ vtx g k).length = n := ⟨_, rfl⟩
             rw [hn5] at ho5 ⊢
             clear hn5
             have hs5 := Nat.le_trans hs4 hb5.size)
          | (at_builtin
             refine wpList_pushZ rfl (.tmp 27) (.tmp 28) rfl w5 (w.heap.size + 1) (.slice A5 n5 c5) (l ++ vtx g k) rfl ho5 10 10 rfl rfl hll4 hs5 ?_
             intro v6 w6 ho6 hb6 hc6))
        have hx6 : Below (w.heap.size + 1) w4 w6 := hb5.trans hb6
        have hbw : Below w.heap.size w w6 := hw4.trans (hx6.mono (by omega))
        rw [List.append_assoc, ← HU.out] at ho6
        go_roundw
        case rel => exact ⟨k + 1, by omega, by go_num, ho6, hbw, bx4.below hx6 (by omega)⟩
        case measure => simp [intOf]; omega
      · obtain rfl : k = n2 := by omega
        have hcv := conv_bytesZ ho
        go_wp2
        go_ret
        exact ⟨by rw [E.out, HL.out]; rfl, hbr.mono hB⟩
set_option maxRecDepth 100000 in
set_option maxHeartbeats 1600000 in
theorem implGameText (s0 s1 s2 : Value) (g : ParD) (w : World) (B : Nat) (hB : B ≤ w.heap.size) (hT : Tab w) (hP : PN w) (ha : RPv w s0 s1 s2 g) :
    Calls Tryd.prog 37 #[.agg #[s0, s1, s2]] w fun e w' => e = .returned (.string (tx (gmT g))) ∧ Below B w w' := by
  obtain ⟨A0, n0, c0, A1, n1, c1, A2, n2, c2, rfl, rfl, rfl⟩ := ha.form
  have b1 := ha.ri.cap; have b2 := ha.ri.top; have b5 := ha.rp.cap; have b6 := ha.rp.top
  have HL := Lib.hid ha.ri.len; have HPl := Lib.hid ha.rp.len
  have bx := Box.new w 54 #[.slice A0 n0 c0, .slice A1 n1 c1, .slice A2 n2 c2]
  have hwL : Below w.heap.size w (w.alloc (.cells #[.slice A0 n0 c0, .slice A1 n1 c1, .slice A2 n2 c2] 54)) := below_alloc (Nat.le_refl _) (Below.refl _ _)
  have q0 : (w.alloc (.cells #[.slice A0 n0 c0, .slice A1 n1 c1, .slice A2 n2 c2] 54)).cell? ⟨w.heap.size, 0, none⟩ = some (.slice A0 n0 c0) := bx.cell 0
  have q1 : (w.alloc (.cells #[.slice A0 n0 c0, .slice A1 n1 c1, .slice A2 n2 c2] 54)).cell? ⟨w.heap.size, 1, none⟩ = some (.slice A1 n1 c1) := bx.cell 1
  have q2 : (w.alloc (.cells #[.slice A0 n0 c0, .slice A1 n1 c1, .slice A2 n2 c2] 54)).cell? ⟨w.heap.size, 2, none⟩ = some (.slice A2 n2 c2) := bx.cell 2
  cases hp : parB g with
  | false =>
    have E := Lib.hid (gmT_no hp)
    have HH := Lib.hid hp
    clear hp
    go_enter Tryd.func37, Tryd.ntmps37
    go_wp2_with fail
    refine (implParityOk _ _ _ _ _ _ (Nat.le_refl _) (ha.keep (keeps_below hwL))).mono ?_; rintro e w1 ⟨rfl, hb1⟩
    rw [HH.out]
    go_wp2
    go_ret
    exact ⟨by rw [E.out]; rfl, (below_then hb1 hwL.size hwL).mono hB⟩
  | true =>
    have hf := finePar_of hp
    have HH := Lib.hid hp
    have HF := Lib.hid hf
    have E := Lib.hid (gmT_yes hp)
    have hn2 : n2 = n0 := by have := hf.2.1; rw [HPl.out, HL.out] at this; exact this
    have hn0 : n0 ≤ 256 := by have := hf.1.2.1; rw [HL.out] at this; exact this
    have HN : Hid (n2 = n0) := Lib.hid hn2
    subst hn2
    have HX := Lib.hid (fun k (hk : k < n2) => vtx_len hf (v := k) (by rw [HL.out]; exact hk))
    have HG := Lib.hid (fun k (hk : k ≤ n2) => gmUp_len hf k (by rw [HL.out]; exact hk))
    have h9 : n2 < 1000000000 := by omega
    have hd : (tx (Lib.decDigits n2)).size ≤ 9 := by rw [tx_size]; exact dec_len9 h9
    have z1 : 5 + (tx (Lib.decDigits n2)).size ≤ 9223372036854775807 := by omega
    have z2 : 5 + (tx (Lib.decDigits n2)).size + 1 ≤ 9223372036854775807 := by omega
    clear hp hf hd HN
    go_enter Tryd.func37, Tryd.ntmps37
    go_wp2_with fail
    refine (implParityOk _ _ _ _ _ _ (Nat.le_refl _) (ha.keep (keeps_below hwL))).mono ?_; rintro e w1 ⟨rfl, hb1⟩
    rw [HH.out]
    have bx1 := bx.below hb1 bx.lt
    have k0 : w1.cell? ⟨w.heap.size, 0, none⟩ = some (.slice A0 n2 c0) := bx1.cell 0
    have k1 : w1.cell? ⟨w.heap.size, 1, none⟩ = some (.slice A1 n1 c1) := bx1.cell 1
    have k2 : w1.cell? ⟨w.heap.size, 2, none⟩ = some (.slice A2 n2 c2) := bx1.cell 2
    have hw1 := below_then hb1 hwL.size hwL
    have hs1 : w.heap.size + 1 ≤ w1.heap.size := bx1.lt
    clear q0 q1 q2
    go_wp2_with fail
    refine (implSize _ _ _ _ _ _ _ _ (Nat.le_refl _) (by omega)).mono ?_; rintro e w2 ⟨rfl, hb2⟩
    have bx2 := bx1.below hb2 bx1.lt
    have hw2 := below_then hb2 hw1.size hw1
    have hs2 : w.heap.size + 1 ≤ w2.heap.size := Nat.le_trans hs1 hb2.size
    clear k0 k1 k2
    go_wp2_with fail
    refine (decimal n2 _ h9 _ (Nat.le_refl _) (hT.below hw2)).mono ?_; rintro e w3 ⟨rfl, hb3⟩
    have bx3 := bx2.below hb3 bx2.lt
    have hw3 := below_then hb3 hw2.size hw2
    have j0 : w3.cell? ⟨w.heap.size, 0, none⟩ = some (.slice A0 n2 c0) := bx3.cell 0
    have j1 : w3.cell? ⟨w.heap.size, 1, none⟩ = some (.slice A1 n1 c1) := bx3.cell 1
    have j2 : w3.cell? ⟨w.heap.size, 2, none⟩ = some (.slice A2 n2 c2) := bx3.cell 2
    go_wp2
    go_loopw [3, 17] (fun v i wr => ∃ k : Nat, k ≤ n2 ∧ i = .int .i64 k ∧ v = .string (tx (gmUp g k)) ∧ Below w.heap.size w wr ∧ Box wr w.heap.size 54 #[.slice A0 n2 c0, .slice A1 n1 c1, .slice A2 n2 c2]) (fun _ i _ => n2 - (intOf i).toNat)
    case atStart => exact ⟨0, Nat.zero_le _, rfl, by rw [gm_head]; unfold gmUp; rw [HL.out], hw3, bx3⟩
    case round =>
      clear bx1 bx2 bx3 j0 j1 j2
      obtain ⟨k, hk, rfl, rfl, hbr, hbx⟩ := hrel
      have hsz := hbr.size
      have hbl := hbx.lt
      have m0 : wr.cell? ⟨w.heap.size, 0, none⟩ = some (.slice A0 n2 c0) := hbx.cell 0
      have m1 : wr.cell? ⟨w.heap.size, 1, none⟩ = some (.slice A1 n1 c1) := hbx.cell 1
      have m2 : wr.cell? ⟨w.heap.size, 2, none⟩ = some (.slice A2 n2 c2) := hbx.cell 2
      by_cases hlt : k < n2
      · have hll : (tx (gmUp g k)).size ≤ 4194304 := by rw [tx_size]; have := HG.out k hk; omega
        have hvl : (tx (vtx g k)).size ≤ 4194304 := by rw [tx_size]; have := HX.out k hlt; omega
        have HK := Lib.hid (show k < g.1.length by rw [HL.out]; exact hlt)
        have HU : Hid (gmUp g (k + 1) = gmUp g k ++ (vtx g k ++ [10])) := Lib.hid rfl
        have y1 : (tx (vtx g k)).size + 1 ≤ 9223372036854775807 := by omega
        have y2 : (tx (gmUp g k)).size + ((tx (vtx g k)).size + 1) ≤ 9223372036854775807 := by omega
        go_wp2_with fail
        refine (vertexText _ _ _ _ _ _ _ (Nat.le_refl _) (hT.below hbr) (hP.keep (keeps_below hbr)) (ha.keep (keeps_below hbr)) HF.out HK.out).mono ?_; rintro e w4 ⟨rfl, hb4⟩
        have bx4 := hbx.below hb4 hbl
        have hw4 := below_then hb4 hbr.size hbr
        clear m0 m1 m2
        go_wp2
        go_roundw
        case rel =>
          refine ⟨k + 1, by omega, by go_num, ?_, hw4, bx4⟩
          show Value.string (tx (gmUp g k) ++ (tx (vtx g k) ++ tx [10])) = _
          rw [tx_app, tx_app, HU.out]
        case measure => simp [intOf]; omega
      · obtain rfl : k = n2 := by omega
        go_wp2
        go_ret
        exact ⟨by rw [E.out, HL.out]; rfl, hbr.mono hB⟩
end Go.Proofs.YtkhkdnmpbfmmeaaDoor
