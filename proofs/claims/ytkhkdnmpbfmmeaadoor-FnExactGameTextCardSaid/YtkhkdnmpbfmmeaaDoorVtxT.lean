/- VertexText, spec and impl: contracts. -/
import Derived.Test.YtkhkdnmpbfmmeaaDoorLine
namespace Go.Proofs.YtkhkdnmpbfmmeaaDoor
open Go.RowKit

/-- the successors of a line, each behind a blank -/
def tlx (us : List Int) : List UInt8 := Lib.joinTail [32] (us.map fun u => Lib.decDigits u.toNat)
theorem tlx_snoc {us : List Int} {k : Nat} (h : k < us.length) : tlx (us.take (k + 1)) = tlx (us.take k) ++ ([32] ++ Lib.decDigits (gi us k).toNat) := by
  unfold tlx
  rw [take_gi h, List.map_append]
  simp [Lib.joinTail]
theorem tlx_len {us : List Int} (hu : ∀ u ∈ us, 0 ≤ u ∧ u < 256) : ∀ k, k ≤ us.length → (tlx (us.take k)).length ≤ 10 * k
  | 0, _ => by simp [tlx, Lib.joinTail]
  | k + 1, hk => by
    have ih := tlx_len hu k (by omega)
    have h1 := hu _ (gi_mem (show k < us.length by omega))
    have := dec_len9 (show (gi us k).toNat < 1000000000 by omega)
    rw [tlx_snoc (by omega), List.length_append, List.length_append, List.length_singleton]
    omega
theorem vtx_eq {g : ParD} {v : Nat} (h : 1 ≤ (gl g.2.1 v).length) : vtx g v = Lib.decDigits (gi g.2.2 v).toNat ++ [32] ++ wo (gi g.1 v) ++ tlx (gl g.2.1 v) := by
  unfold vtx tlx
  generalize gl g.2.1 v = us at h
  cases us with
  | nil => simp at h
  | cons x r =>
    have e : jn (nums (x :: r)) [32] = Lib.decDigits x.toNat ++ Lib.joinTail [32] (r.map fun u => Lib.decDigits u.toNat) := by
      unfold jn nums
      simp only [List.map_cons, List.map_map, tx_data]
      rw [Lib.join_cons]
      congr 2
    rw [e]
    unfold jn
    simp only [List.map_cons, List.map_nil, tx_data]
    rw [Lib.join_cons]
    simp [Lib.joinTail]

set_option maxRecDepth 100000 in
set_option maxHeartbeats 1600000 in
theorem vertexText (s0 s1 s2 : Value) (g : ParD) (v : Nat) (w : World) (B : Nat) (hB : B ≤ w.heap.size) (hT : Tab w) (hP : PN w) (ha : RPv w s0 s1 s2 g) (hg : finePar g) (hv : v < g.1.length) :
    Calls Tryd.prog 75 #[.agg #[s0, s1, s2], .int .i64 (v : Int)] w fun e w' => e = .returned (.string (tx (vtx g v))) ∧ Below B w w' := by
  obtain ⟨A0, n0, c0, A1, n1, c1, A2, n2, c2, rfl, rfl, rfl⟩ := ha.form
  have hr := ha.ri; have hrr := ha.rii; have hrp := ha.rp
  have b1 := hr.cap; have b2 := hr.top; have b3 := hrr.cap; have b4 := hrr.top; have b5 := hrp.cap; have b6 := hrp.top
  obtain ⟨⟨f1, f2, f3, f4⟩, f5, f6⟩ := hg
  have l0 := hr.len; have l1 := hrr.len; have l2 := hrp.len
  have hv0 : v < n0 := by omega
  have hv1 : v < n1 := by omega
  have hv2 : v < n2 := by omega
  obtain ⟨⟨o0, o1⟩, ⟨x0, x1⟩, xs⟩ := f4 v hv
  have HU := Lib.hid (fun u (hu : u ∈ gl g.2.1 v) => show 0 ≤ u ∧ u < 256 by have := set_all xs u hu; omega)
  obtain ⟨p0, p1⟩ := f6 v (by omega)
  obtain ⟨p, hp⟩ := Int.eq_ofNat_of_zero_le p0
  have HP := Lib.hid hp
  have HP4 := Lib.hid (show p < 1000000000 by omega)
  have HVX := Lib.hid (vtx_eq (g := g) (v := v) x0)
  obtain ⟨bo, fo, rfl, co⟩ := hr.at_ hv0
  obtain ⟨bp, fp, rfl, cp⟩ := hrp.at_ hv2
  obtain ⟨bn, fn, A', n', c', rfl, cn, rn⟩ := hrr.at_ hv1
  have hnl := Lib.hid rn.len
  have hn16 : n' ≤ 16 := by have := rn.len; omega
  have bn1 := rn.cap; have bn2 := rn.top
  rw [hp] at cp
  have lo := World.block_lt_of_cell? w _ co
  have lp := World.block_lt_of_cell? w _ cp
  have ln := World.block_lt_of_cell? w _ cn
  have lg := World.block_lt_of_cell? w _ hP.1
  simp only at lo lp ln lg
  have HO : Hid (gi g.1 v = 0 ∨ gi g.1 v = 1) := Lib.hid (by omega)
  have hd : (tx (Lib.decDigits p)).size ≤ 9 := by rw [tx_size]; exact dec_len9 HP4.out
  have z1 : (tx (Lib.decDigits p)).size + 1 ≤ 9223372036854775807 := by omega
  have z2 : (tx (Lib.decDigits p)).size + 1 + 4 ≤ 9223372036854775807 := by omega
  have z3 : (tx (Lib.decDigits p)).size + 1 + 3 ≤ 9223372036854775807 := by omega
  have y1 : ¬ 9223372036854775807 < (tx (Lib.decDigits p)).size + 1 := by omega
  have y2 : ¬ 9223372036854775807 < (tx (Lib.decDigits p)).size + 1 + 4 := by omega
  have y3 : ¬ 9223372036854775807 < (tx (Lib.decDigits p)).size + 1 + 3 := by omega
  clear f1 f2 f3 f4 f5 f6 x0 x1 xs p0 p1 hp l0 l1 l2 o0 o1 hv hd
  have bx := Box.new w 54 #[.slice (some ⟨bo, fo, none⟩) n0 c0, .slice (some ⟨bn, fn, none⟩) n1 c1, .slice (some ⟨bp, fp, none⟩) n2 c2]
  have hwL : Below w.heap.size w (w.alloc (.cells #[.slice (some ⟨bo, fo, none⟩) n0 c0, .slice (some ⟨bn, fn, none⟩) n1 c1, .slice (some ⟨bp, fp, none⟩) n2 c2] 54)) := below_alloc (Nat.le_refl _) (Below.refl _ _)
  go_enter Tryd.func75, Tryd.ntmps75
  go_wp2_with fail
  generalize (w.alloc (.cells #[.slice (some ⟨bo, fo, none⟩) n0 c0, .slice (some ⟨bn, fn, none⟩) n1 c1, .slice (some ⟨bp, fp, none⟩) n2 c2] 54)) = wL at bx hwL ⊢
  have HS : ∀ w', Below wL.heap.size wL w' → (w'.cell? ⟨w.heap.size, 0, none⟩ = some (.slice (some ⟨bo, fo, none⟩) n0 c0) ∧ w'.cell? ⟨w.heap.size, 1, none⟩ = some (.slice (some ⟨bn, fn, none⟩) n1 c1) ∧ w'.cell? ⟨w.heap.size, 2, none⟩ = some (.slice (some ⟨bp, fp, none⟩) n2 c2) ∧ w'.cell? ⟨bo, fo + v, none⟩ = some (.int .i64 (gi g.1 v)) ∧ w'.cell? ⟨bp, fp + v, none⟩ = some (.int .i64 p) ∧ w'.cell? ⟨bn, fn + v, none⟩ = some (.slice A' n' c') ∧ w'.cell? ⟨0, 0, none⟩ = some (.string { data := #[101, 118, 101, 110] }) ∧ w'.cell? ⟨0, 1, none⟩ = some (.string { data := #[111, 100, 100] })) := fun w' h => by
    have k := keeps_below hwL
    have bx' := bx.below h bx.lt
    exact ⟨bx'.cell 0, bx'.cell 1, bx'.cell 2, keeps_below h _ _ (k _ _ co), keeps_below h _ _ (k _ _ cp), keeps_below h _ _ (k _ _ cn), keeps_below h _ _ (k _ _ hP.1), keeps_below h _ _ (k _ _ hP.2)⟩
  obtain ⟨u0, u1, u2, u3, u4, u5, u6, u7⟩ := HS wL (Below.refl _ _)
  have H3 := Lib.hid HS
  clear HS co cp cn
  have hTL := hT.below hwL
  generalize ho : gi g.1 v = o at *
  have HO' := HO.out
  clear HO
  have HW : ∀ wF, Below w.heap.size w wF → ∀ a : Act, True := fun _ _ _ => trivial
  clear HW
  rcases HO' with rfl | rfl
  · have HS3 := H3
    go_region_held3 (fun w' => w'.cell? ⟨w.heap.size, 0, none⟩ = some (.slice (some ⟨bo, fo, none⟩) n0 c0) ∧ w'.cell? ⟨w.heap.size, 1, none⟩ = some (.slice (some ⟨bn, fn, none⟩) n1 c1) ∧ w'.cell? ⟨w.heap.size, 2, none⟩ = some (.slice (some ⟨bp, fp, none⟩) n2 c2) ∧ w'.cell? ⟨bo, fo + v, none⟩ = some (.int .i64 0) ∧ w'.cell? ⟨bp, fp + v, none⟩ = some (.int .i64 p) ∧ w'.cell? ⟨bn, fn + v, none⟩ = some (.slice A' n' c') ∧ w'.cell? ⟨0, 0, none⟩ = some (.string { data := #[101, 118, 101, 110] }) ∧ w'.cell? ⟨0, 1, none⟩ = some (.string { data := #[111, 100, 100] }))
      (refine ⟨?_, ?_, ?_, ?_, ?_, ?_, ?_, ?_⟩ <;> repeat (first | with_reducible assumption | with_reducible refine keepD ?_ | with_reducible refine keepA ?_))
      ((go_at_call 78; refine (decimal _ _ HP4.out _ (Nat.le_refl _) (by exact hTL.below (Below.drew (Below.refl _ _)))).mono ?_; rintro e w1 ⟨rfl, hb1⟩; have hx1 : Below wL.heap.size wL w1 := below_undrew hb1; obtain ⟨a0, a1, a2, a3, a4, a5, a6, a7⟩ := H3.out w1 hx1))
    have e0 : tx (Lib.decDigits p) ++ { data := #[32] } ++ { data := #[101, 118, 101, 110] } = tx (Lib.decDigits p ++ [32] ++ wo 0) := by
      show tx (Lib.decDigits p) ++ tx [32] ++ tx (wo 0) = _
      rw [tx_app, tx_app]
    rw [e0]
    generalize hhd : Lib.decDigits p ++ [32] ++ wo 0 = hd
    have HD := Lib.hid hhd
    have hl9 : hd.length ≤ 14 := by
      rw [← hhd, List.length_append, List.length_append, List.length_singleton]
      have h1 := dec_len9 HP4.out
      have h2 := wo_len 0
      omega
    clear hhd e0
    have hw1 := below_then hx1 hwL.size hwL
    have HT := Lib.hid (tlx_len HU.out)
    go_wp2
    go_loopw [5, 31] (fun s i wr => ∃ k : Nat, k ≤ n' ∧ i = .int .i64 k ∧ s = .string (tx (hd ++ tlx ((gl g.2.1 v).take k))) ∧ Below w.heap.size w wr) (fun _ i _ => n' - (intOf i).toNat)
    case atStart => exact ⟨0, Nat.zero_le _, rfl, by rw [List.take_zero]; show _ = Value.string (tx (hd ++ [])); rw [List.append_nil], hw1⟩
    case round =>
      obtain ⟨k, hk, rfl, rfl, hbr⟩ := hrel
      have hsz := hbr.size
      have hT' := hT.below hbr
      by_cases hlt : k < n'
      · obtain ⟨bb, off, rfl, hc1⟩ := (rn.keep (keeps_below hbr)).at_ hlt
        have hkl : k < (gl g.2.1 v).length := by rw [hnl.out]; exact hlt
        have HN := Lib.hid (tlx_snoc hkl)
        have H1 := HU.out _ (gi_mem hkl)
        obtain ⟨u, hu0⟩ := Int.eq_ofNat_of_zero_le H1.1
        have HUu := Lib.hid hu0
        have HU9 := Lib.hid (show u < 1000000000 by omega)
        rw [hu0] at hc1
        have hd9 : (tx (Lib.decDigits u)).size ≤ 9 := by rw [tx_size]; exact dec_len9 HU9.out
        have hl : (tx (hd ++ tlx ((gl g.2.1 v).take k))).size ≤ 200 := by
          rw [tx_size, List.length_append]
          have := HT.out k (by rw [hnl.out]; exact hk)
          omega
        have y1 : 1 + (tx (Lib.decDigits u)).size ≤ 9223372036854775807 := by omega
        have y2 : (tx (hd ++ tlx ((gl g.2.1 v).take k))).size + (1 + (tx (Lib.decDigits u)).size) ≤ 9223372036854775807 := by omega
        clear hd9 hl hu0 H1 hkl
        go_wp2_with (go_at_call 78; refine (decimal _ _ HU9.out _ (Nat.le_refl _) hT').mono ?_; rintro e w2 ⟨rfl, hb2⟩)
        have hbw : Below w.heap.size w w2 := below_then hb2 hsz hbr
        go_roundw
        case rel =>
          refine ⟨k + 1, by omega, by go_num, ?_, hbw⟩
          show Value.string (tx (hd ++ tlx ((gl g.2.1 v).take k)) ++ (tx [32] ++ tx (Lib.decDigits u))) = _
          rw [tx_app, tx_app, HN.out, HUu.out, List.append_assoc]
          rfl
        case measure => simp [intOf]; omega
      · obtain rfl : k = n' := by omega
        go_wp2
        go_ret
        refine ⟨?_, hbr.mono hB⟩
        rw [List.take_of_length_le (by rw [hnl.out]; exact Nat.le_refl _)]
        rw [HVX.out, HP.out, ← HD.out]
        rfl
  · have HS3 := H3
    go_region_held3 (fun w' => w'.cell? ⟨w.heap.size, 0, none⟩ = some (.slice (some ⟨bo, fo, none⟩) n0 c0) ∧ w'.cell? ⟨w.heap.size, 1, none⟩ = some (.slice (some ⟨bn, fn, none⟩) n1 c1) ∧ w'.cell? ⟨w.heap.size, 2, none⟩ = some (.slice (some ⟨bp, fp, none⟩) n2 c2) ∧ w'.cell? ⟨bo, fo + v, none⟩ = some (.int .i64 1) ∧ w'.cell? ⟨bp, fp + v, none⟩ = some (.int .i64 p) ∧ w'.cell? ⟨bn, fn + v, none⟩ = some (.slice A' n' c') ∧ w'.cell? ⟨0, 0, none⟩ = some (.string { data := #[101, 118, 101, 110] }) ∧ w'.cell? ⟨0, 1, none⟩ = some (.string { data := #[111, 100, 100] }))
      (refine ⟨?_, ?_, ?_, ?_, ?_, ?_, ?_, ?_⟩ <;> repeat (first | with_reducible assumption | with_reducible refine keepD ?_ | with_reducible refine keepA ?_))
      ((go_at_call 78; refine (decimal _ _ HP4.out _ (Nat.le_refl _) (by exact hTL.below (Below.drew (Below.refl _ _)))).mono ?_; rintro e w1 ⟨rfl, hb1⟩; have hx1 : Below wL.heap.size wL w1 := below_undrew hb1; obtain ⟨a0, a1, a2, a3, a4, a5, a6, a7⟩ := H3.out w1 hx1))
    have e0 : tx (Lib.decDigits p) ++ { data := #[32] } ++ { data := #[111, 100, 100] } = tx (Lib.decDigits p ++ [32] ++ wo 1) := by
      show tx (Lib.decDigits p) ++ tx [32] ++ tx (wo 1) = _
      rw [tx_app, tx_app]
    rw [e0]
    generalize hhd : Lib.decDigits p ++ [32] ++ wo 1 = hd
    have HD := Lib.hid hhd
    have hl9 : hd.length ≤ 14 := by
      rw [← hhd, List.length_append, List.length_append, List.length_singleton]
      have h1 := dec_len9 HP4.out
      have h2 := wo_len 1
      omega
    clear hhd e0
    have hw1 := below_then hx1 hwL.size hwL
    have HT := Lib.hid (tlx_len HU.out)
    go_wp2
    go_loopw [5, 31] (fun s i wr => ∃ k : Nat, k ≤ n' ∧ i = .int .i64 k ∧ s = .string (tx (hd ++ tlx ((gl g.2.1 v).take k))) ∧ Below w.heap.size w wr) (fun _ i _ => n' - (intOf i).toNat)
    case atStart => exact ⟨0, Nat.zero_le _, rfl, by rw [List.take_zero]; show _ = Value.string (tx (hd ++ [])); rw [List.append_nil], hw1⟩
    case round =>
      obtain ⟨k, hk, rfl, rfl, hbr⟩ := hrel
      have hsz := hbr.size
      have hT' := hT.below hbr
      by_cases hlt : k < n'
      · obtain ⟨bb, off, rfl, hc1⟩ := (rn.keep (keeps_below hbr)).at_ hlt
        have hkl : k < (gl g.2.1 v).length := by rw [hnl.out]; exact hlt
        have HN := Lib.hid (tlx_snoc hkl)
        have H1 := HU.out _ (gi_mem hkl)
        obtain ⟨u, hu0⟩ := Int.eq_ofNat_of_zero_le H1.1
        have HUu := Lib.hid hu0
        have HU9 := Lib.hid (show u < 1000000000 by omega)
        rw [hu0] at hc1
        have hd9 : (tx (Lib.decDigits u)).size ≤ 9 := by rw [tx_size]; exact dec_len9 HU9.out
        have hl : (tx (hd ++ tlx ((gl g.2.1 v).take k))).size ≤ 200 := by
          rw [tx_size, List.length_append]
          have := HT.out k (by rw [hnl.out]; exact hk)
          omega
        have y1 : 1 + (tx (Lib.decDigits u)).size ≤ 9223372036854775807 := by omega
        have y2 : (tx (hd ++ tlx ((gl g.2.1 v).take k))).size + (1 + (tx (Lib.decDigits u)).size) ≤ 9223372036854775807 := by omega
        clear hd9 hl hu0 H1 hkl
        go_wp2_with (go_at_call 78; refine (decimal _ _ HU9.out _ (Nat.le_refl _) hT').mono ?_; rintro e w2 ⟨rfl, hb2⟩)
        have hbw : Below w.heap.size w w2 := below_then hb2 hsz hbr
        go_roundw
        case rel =>
          refine ⟨k + 1, by omega, by go_num, ?_, hbw⟩
          show Value.string (tx (hd ++ tlx ((gl g.2.1 v).take k)) ++ (tx [32] ++ tx (Lib.decDigits u))) = _
          rw [tx_app, tx_app, HN.out, HUu.out, List.append_assoc]
          rfl
        case measure => simp [intOf]; omega
      · obtain rfl : k = n' := by omega
        go_wp2
        go_ret
        refine ⟨?_, hbr.mono hB⟩
        rw [List.take_of_length_le (by rw [hnl.out]; exact Nat.le_refl _)]
        rw [HVX.out, HP.out, ← HD.out]
        rfl
end Go.Proofs.YtkhkdnmpbfmmeaaDoor
