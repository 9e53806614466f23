/- Texts that the proof reaches: SolH. -/
import Derived.Test.YtblmcmccdeelgaaBn8
import Derived.Deep.DeepCutAuto
namespace Go.Proofs.Ytblmcmccdeelgaa
open Go.RowKit

theorem RIv.at_s {w : World} {A : Option Addr} {n c : Nat} {xs : List Int} (h : RIv w (.slice A n c) xs) : RI w A n c xs := by
  obtain ⟨A', n', c', e, h⟩ := h
  injection e with e1 e2 e3
  subst e1; subst e2; subst e3
  exact h
theorem RIIv.at_s {w : World} {A : Option Addr} {n c : Nat} {xs : List (List Int)} (h : RIIv w (.slice A n c) xs) : RII w A n c xs := by
  obtain ⟨A', n', c', e, h⟩ := h
  injection e with e1 e2 e3
  subst e1; subst e2; subst e3
  exact h
theorem set_range {c : List Int} {N v : Nat} {x : Int} (h : c.length = N ∧ ∀ y, y < N → -1 ≤ gi c y ∧ gi c y < N) (hv : v < N) (hx : -1 ≤ x ∧ x < N) : (c.set v x).length = N ∧ ∀ y, y < N → -1 ≤ gi (c.set v x) y ∧ gi (c.set v x) y < N := by
  refine ⟨by rw [List.length_set]; exact h.1, fun y hy => ?_⟩
  rw [gi_set (by rw [h.1]; exact hv)]
  split
  · exact hx
  · exact h.2 y hy
set_option maxRecDepth 100000 in
set_option maxHeartbeats 3200000 in
theorem l7Pick (s0 s1 s2 s3 : Value) (bk ck N v lo : Nat) (g : S7) (c : List Int) (I : Option Addr) (ci : Nat) (ins : List Bool) (w : World) (hr : Rest7 w bk s0 s1 s2 s3 g) (hp : OI 2 w lo (.slice (some ⟨bk, 0, none⟩) N ck) c) (hc : c.length = N ∧ ∀ x, x < N → -1 ≤ gi c x ∧ gi c x < N)
    (hi : ∀ w', Chg (fun b => b = bk) w w' → RB w' I N ci ins) (hf : fine7 (withC g c) N) (hv : v < N) :
    Calls Try.prog 61 #[.agg #[s0, s1, s2, s3, (.slice (some ⟨bk, 0, none⟩) N ck)], .slice I N ci, .int .i64 (v : Int)] w (PickTo w lo bk N ck) := by
  obtain ⟨⟨A0, n0, c0, rfl, r0⟩, ⟨A1, n1, c1, rfl, r1⟩, ⟨A2, n2, c2, rfl, r2⟩, ⟨A3, n3, c3, rfl, r3⟩⟩ := hr w (Chg.refl _ _)
  have hF0 : ∀ c', c'.length = N → fine7 (withC g c') N := fun c' h => fine_withC (g := withC g c) hf h
  have HF0 := Lib.hid hF0
  have HF := Lib.hid hf; have HR := Lib.hid hr; have HI := Lib.hid hi
  have hi0 := hi w (Chg.refl _ _)
  have b1 := r0.cap; have b2 := r0.top; have b3 := r2.cap; have b4 := r2.top; have b5 := hi0.cap; have b6 := hi0.top
  have H0 := Lib.hid (show n0 = N by rw [← r0.len]; exact hf.lo); have H2 := Lib.hid (show n2 = N by rw [← r2.len]; exact hf.ln)
  have hkl : bk < w.heap.size := (hp.lt _ rfl).2
  have hnn : (gl g.n v).length ≤ 16 := (hf.row v hv).1
  have HSET := Lib.hid (hf.row v hv).2
  have bx := Box.new w 76 #[.slice A0 n0 c0, .slice A1 n1 c1, .slice A2 n2 c2, .slice A3 n3 c3, .slice (some ⟨bk, 0, none⟩) N ck]
  have hba : Below w.heap.size w (w.alloc (.cells #[.slice A0 n0 c0, .slice A1 n1 c1, .slice A2 n2 c2, .slice A3 n3 c3, .slice (some ⟨bk, 0, none⟩) N ck] 76)) := below_alloc (Nat.le_refl _) (Below.refl _ _)
  have pk_ := hp.reads.cap; have pt_ := hp.reads.top
  have HC := Lib.hid hc
  clear hF0 hf hr hi hi0 hc
  go_enter Try.func61, Try.ntmps61
  go_wp2
  go_loopw [7] (fun i wr => ∃ (k : Nat) (c : List Int), k ≤ (gl g.n v).length ∧ i = .int .i64 k ∧ OI 2 wr lo (.slice (some ⟨bk, 0, none⟩) N ck) c ∧ Hid (c.length = N ∧ ∀ x, x < N → -1 ≤ gi c x ∧ gi c x < N) ∧ Box wr w.heap.size 76 #[.slice A0 n0 c0, .slice A1 n1 c1, .slice A2 n2 c2, .slice A3 n3 c3, .slice (some ⟨bk, 0, none⟩) N ck] ∧ Chg (fun b => b = bk) w wr) (fun i _ => (gl g.n v).length - (intOf i).toNat)
  case atStart => exact ⟨0, c, Nat.zero_le _, rfl, hp.below hba, HC, bx, chgB hba⟩
  case round =>
    clear hp HC bx hba r0 r1 r2 r3
    rename List Int => c_
    obtain ⟨k, c, hk, rfl, hp, HC, bx, hch⟩ := hrel
    obtain ⟨t0, t1, t2, t3⟩ := HR.out wr hch
    have r0 := t0.at_s; have r2 := t2.at_s
    clear t0 t1 t2 t3
    have l0 : v < n0 := by rw [H0.out]; exact hv
    have l2 : v < n2 := by rw [H2.out]; exact hv
    obtain ⟨bo, oo, rfl, hco⟩ := r0.at_ l0
    obtain ⟨bn, on, An, nn, cn_, rfl, hcn, rn⟩ := r2.at_ l2
    have HNN := Lib.hid rn.len
    have d1 := rn.cap; have d2 := rn.top
    have hvi0 : (v : Int) < (n0 : Int) := by omega
    have hvi2 : (v : Int) < (n2 : Int) := by omega
    have hvN : (v : Int) < (N : Int) := by omega
    have hv0 : (0 : Int) ≤ (v : Int) := by omega
    have q2 := bx.e2
    by_cases hlt : k < nn
    · have hki : (k : Int) < (nn : Int) := by omega
      have hk0 : (0 : Int) ≤ (k : Int) := by omega
      have hkl2 : k < (gl g.n v).length := by rw [HNN.out]; exact hlt
      obtain ⟨br, or_, rfl, hcr⟩ := rn.at_ hlt
      have hrb := set_mem HSET.out (gi_mem (xs := gl g.n v) (i := k) hkl2)
      obtain ⟨u, hu⟩ := Int.eq_ofNat_of_zero_le hrb.1
      have hun : u < N := by have := hrb.2; omega
      rw [hu] at hcr
      obtain ⟨bi, oi, rfl, hci⟩ := (HI.out wr hch).at_ hun
      have hui : (u : Int) < (N : Int) := by omega
      have hu0 : (0 : Int) ≤ (u : Int) := by omega
      clear hrb hu
      cases h1 : gb ins u with
      | false =>
        rw [h1] at hci
        clear h1
        go_wp2
        go_roundw
        case rel => exact ⟨k + 1, c, by omega, by go_num, hp, HC, bx, hch⟩
        case measure => simp [intOf]; omega
      | true =>
        rw [h1] at hci
        clear h1
        have q4 := bx.e4
        have hcm := hp.cellAt (i := v) (by rw [HC.out.1]; exact hv)
        have hfz := hp.hot (i := v) (by rw [HC.out.1])
        have nek : ¬ bk = w.heap.size := by omega
        have chS : Chg (fun b => b = bk) wr (wr.setCell ⟨bk, v, none⟩ (.int .i64 (u : Int))) := Chg.set ⟨bk, v, none⟩ (.int .i64 (u : Int))
        have hch2 := hch.trans chS (U := fun b => b = bk) (fun _ h => h) (fun _ h => h)
        have hp2 := hp.set_ (i := v) (by rw [HC.out.1]) (u : Int)
        have bx2 : Box (wr.setCell ⟨bk, v, none⟩ (.int .i64 (u : Int))) w.heap.size 76 #[.slice (some ⟨bo, oo, none⟩) n0 c0, .slice A1 n1 c1, .slice (some ⟨bn, on, none⟩) n2 c2, .slice A3 n3 c3, .slice (some ⟨bk, 0, none⟩) N ck] := bx.far (by show w.heap.size ≠ bk; omega) _
        have HC2 := Lib.hid (set_range HC.out hv (x := (u : Int)) ⟨by omega, by omega⟩)
        have HF2 := Lib.hid (HF0.out (c.set v (u : Int)) HC2.out.1)
        have hco2 : (wr.setCell ⟨bk, v, none⟩ (.int .i64 (u : Int))).cell? ⟨bo, oo + v, none⟩ = some (.int .i64 (gi g.o v)) := by
          obtain ⟨b', o', e, hc⟩ := (HR.out _ hch2).1.at_s.at_ l0
          injection e with e; injection e with e1 e2
          subst e1; subst e2; exact hc
        clear HC hch chS bx hp
        go_wp2_with fail
        generalize wr.setCell ⟨bk, v, none⟩ (.int .i64 (u : Int)) = wS at *
        replace hch2 : Chg (fun b => b = bk) w wS.drew := hch2.drewN 1
        replace hp2 : OI 2 wS.drew lo (.slice (some ⟨bk, 0, none⟩) N ck) (c.set v (u : Int)) := hp2
        have bxD : Box wS.drew w.heap.size 76 #[.slice (some ⟨bo, oo, none⟩) n0 c0, .slice A1 n1 c1, .slice (some ⟨bn, on, none⟩) n2 c2, .slice A3 n3 c3, .slice (some ⟨bk, 0, none⟩) N ck] := bx2
        have ko : wS.drew.cell? ⟨bo, oo + v, none⟩ = some (.int .i64 (gi g.o v)) := hco2
        have hR7 := HR.out _ hch2
        replace hR7 : R7 wS.drew (.slice (some ⟨bo, oo, none⟩) n0 c0) (.slice A1 n1 c1) (.slice (some ⟨bn, on, none⟩) n2 c2) (.slice A3 n3 c3) (.slice (some ⟨bk, 0, none⟩) N ck) (withC g (c.set v (u : Int))) := ⟨hR7.1, hR7.2.1, hR7.2.2.1, hR7.2.2.2, hp2.rv⟩
        have hiR := HI.out _ hch2
        clear q2 q4 hcm hfz hco hcn hcr hci hco2 bx2
        have q0 := bxD.e0; have q1 := bxD.e1; have q2 := bxD.e2; have q3 := bxD.e3; have q4 := bxD.e4
        refine wp_region_held_drew (S := (fun w' => w'.cell? ⟨w.heap.size, 0, none⟩ = some (.slice (some ⟨bo, oo, none⟩) n0 c0) ∧ w'.cell? ⟨w.heap.size, 1, none⟩ = some (.slice A1 n1 c1) ∧ w'.cell? ⟨w.heap.size, 2, none⟩ = some (.slice (some ⟨bn, on, none⟩) n2 c2) ∧ w'.cell? ⟨w.heap.size, 3, none⟩ = some (.slice A3 n3 c3) ∧ w'.cell? ⟨w.heap.size, 4, none⟩ = some (.slice (some ⟨bk, 0, none⟩) N ck) ∧ w'.cell? ⟨bo, oo + v, none⟩ = some (.int .i64 (gi g.o v)))) (by kernel_rfl) (⟨q0, q1, q2, q3, q4, ko⟩) (fun hHeld => ?_)
        generalize wS.drew = wD at *
        refine takeH0 (v := ?_) (by kernel_rfl) (by kernel_rfl) (by kernel_rfl) (fun _ _ _ h => h) hHeld (by rfl) ?_ ?_
        rotate_left; · (intro w hSw; (try dsimp only at hSw); go_simp; try with_reducible rfl)
        try simp only [Act.put, List.setIfInBounds_toArray, List.set_cons_zero, List.set_cons_succ]
        refine takeH1 (v := ?_) (by kernel_rfl) (by kernel_rfl) (by kernel_rfl) (fun _ _ _ h => h) hHeld (by rfl) ?_ ?_
        rotate_left; · (intro w hSw; (try dsimp only at hSw); go_simp; try with_reducible rfl)
        try simp only [Act.put, List.setIfInBounds_toArray, List.set_cons_zero, List.set_cons_succ]
        refine takeH2 (v := ?_) (by kernel_rfl) (by kernel_rfl) (by kernel_rfl) (fun _ _ _ h => h) hHeld (by rfl) ?_ ?_
        rotate_left; · (intro w hSw; (try dsimp only at hSw); go_simp; try with_reducible rfl)
        try simp only [Act.put, List.setIfInBounds_toArray, List.set_cons_zero, List.set_cons_succ]
        refine takeH3 (v := ?_) (by kernel_rfl) (by kernel_rfl) (by kernel_rfl) (fun _ _ _ h => h) hHeld (by rfl) ?_ ?_
        rotate_left; · (intro w hSw; (try dsimp only at hSw); go_simp; try with_reducible rfl)
        try simp only [Act.put, List.setIfInBounds_toArray, List.set_cons_zero, List.set_cons_succ]
        refine takeH4 (v := ?_) (by kernel_rfl) (by kernel_rfl) (by kernel_rfl) (fun _ _ _ h => h) hHeld (by rfl) ?_ ?_
        rotate_left; · (intro w hSw; (try dsimp only at hSw); go_simp; try with_reducible rfl)
        try simp only [Act.put, List.setIfInBounds_toArray, List.set_cons_zero, List.set_cons_succ]
        refine takeH5 (v := ?_) (by kernel_rfl) (by kernel_rfl) (by kernel_rfl) (fun _ _ _ h => h) hHeld (by rfl) ?_ ?_
        rotate_left; · (intro w hSw; (try dsimp only at hSw); go_simp; try with_reducible rfl)
        try simp only [Act.put, List.setIfInBounds_toArray, List.set_cons_zero, List.set_cons_succ]
        refine takeH6 (v := ?_) (by kernel_rfl) (by kernel_rfl) (by kernel_rfl) (fun _ _ _ h => h) hHeld (by rfl) ?_ ?_
        rotate_left; · (intro w hSw; (try dsimp only at hSw); go_simp; try with_reducible rfl)
        try simp only [Act.put, List.setIfInBounds_toArray, List.set_cons_zero, List.set_cons_succ]
        refine callH7 (by kernel_rfl) (fun K hK => ?_)
        go_simp
        go_at_call 76
        refine (l7Holds _ _ _ _ _ (withC g (c.set v (u : Int))) N _ _ ins _ _ _ (Nat.le_refl _) hR7 hiR HF2.out).mono ?_; rintro e w5 ⟨bb, rfl, hb5⟩
        have bxE := bxD.on hb5
        have ko2 := below_cell hb5 ko
        clear q0 q1 q2 q3 q4 ko
        have q0 := bxE.e0; have q1 := bxE.e1; have q2 := bxE.e2; have q3 := bxE.e3; have q4 := bxE.e4; have ko := ko2
        go_wp2_with fail
        refine hK.out _ _ (⟨q0, q1, q2, q3, q4, ko⟩) (fun hHeld => ?_)
        clear hK K
        try simp only [Act.put, List.setIfInBounds_toArray, List.set_cons_zero, List.set_cons_succ]
        refine wpAnyH_done (by kernel_rfl) ?_ _
        have hch5 := hch2.trans (chgB hb5) (U := fun b => b = bk) (fun _ h => h) (fun _ h => h)
        have hp5 := hp2.below hb5
        clear q0 q1 q2 q3 q4 ko
        cases bb with
        | true =>
          have HP5 := Lib.hid hp5
          clear hp5
          go_wp2
          go_ret
          exact ⟨(u : Int), _, rfl, ⟨by omega, by omega⟩, HP5.out, HC2.out, hch5⟩
        | false =>
          go_wp2
          go_roundw
          case rel => exact ⟨k + 1, _, by omega, by go_num, hp5, HC2, bxE, hch5⟩
          case measure => simp [intOf]; omega
    · have HP := Lib.hid hp
      clear hp
      go_wp2
      go_ret
      exact ⟨-1, c, rfl, ⟨by omega, by omega⟩, HP.out, HC.out, hch⟩

set_option maxHeartbeats 400000 in
theorem l7Same (A B : Option Addr) (n m c d : Nat) (xs ys : List Int) (w : World) (ha : RI w A n c xs) (hb : RI w B m d ys) :
    Calls Try.prog 72 #[.slice A n c, .slice B m d] w fun e w' => e = .returned (.bool (eqL xs ys)) ∧ Qt w w' := by
  have b1 := ha.cap; have b2 := ha.top; have b3 := hb.cap; have b4 := hb.top
  by_cases hnm : n = m
  · subst hnm
    have hnn : ((n : Int) != (n : Int)) = false := by simp
    go_enter Try.func72, Try.ntmps72
    go_wp2
    go_loopw [5] (fun i wr => ∃ k : Nat, k ≤ n ∧ i = .int .i64 k ∧ (∀ j, j < k → gi xs j = gi ys j) ∧ ∃ q, wr = w.drewN q) (fun i _ => n - (intOf i).toNat)
    case atStart => exact ⟨0, Nat.zero_le _, rfl, by omega, 0, rfl⟩
    case round =>
      obtain ⟨k, hk, rfl, hall, q, rfl⟩ := hrel
      by_cases hlt : k < n
      · obtain ⟨b, off, rfl, hc1⟩ := ha.at_ hlt
        obtain ⟨b', off', rfl, hc2⟩ := hb.at_ hlt
        have hki : (k : Int) < (n : Int) := by omega
        have hk0 : (0 : Int) ≤ (k : Int) := by omega
        by_cases he : gi xs k = gi ys k
        · have H := Lib.hid he
          have hne : (gi xs k != gi ys k) = false := by simp [he]
          clear he
          go_wp2
          go_quiet (fail)
          go_wp2
          go_roundw
          case rel => exact ⟨k + 1, by omega, by go_num, all_succ hall H.out, _, rfl⟩
          case measure => simp [intOf]; omega
        · have H := Lib.hid he
          have hne : (gi xs k != gi ys k) = true := by simp [he]
          clear he
          go_wp2
          go_quiet (fail)
          go_wp2
          go_ret
          exact ⟨ret_b (eqL_ne H.out).symm, Qt.drew2 _ _⟩
      · go_wp2
        go_ret
        obtain rfl : k = n := by omega
        exact ⟨ret_b (eqL_of ha.1 hb.1 hall).symm, _, rfl⟩
  · have hnn : ((n : Int) != (m : Int)) = true := by simp; omega
    have H := Lib.hid hnm
    clear hnm
    go_enter Try.func72, Try.ntmps72
    go_wp2
    go_ret
    exact ⟨ret_b (eqL_len (by rw [ha.1, hb.1]; exact H.out)).symm, Qt.refl _⟩



set_option maxRecDepth 100000 in
set_option maxHeartbeats 800000 in
theorem l7Picks (s0 s1 s2 : Value) (g : ParD) (C : Option Addr) (d : Nat) (w : World) (B : Nat) (hB : B ≤ w.heap.size) (hag : RPv w s0 s1 s2 g) (hp : RI w C g.1.length d (negL g.1.length)) (hf : finePar g) :
    Calls Try.prog 79 #[.agg #[s0, s1, s2], .slice C g.1.length d] w fun e w' => e = .returned (.bool true) ∧ Below B w w' := by
  obtain ⟨A0, n0, c0, A1, n1, c1, A2, n2, c2, rfl, rfl, rfl⟩ := hag.form
  have b1 := hag.rp.cap; have b2 := hag.rp.top; have b3 := hp.cap; have b4 := hp.top
  have HN := Lib.hid (show g.1.length = n2 by rw [← hag.rp.len]; exact hf.2.1.symm)
  rw [HN.out] at hp b3 ⊢
  have bx := Box.new w 34 #[.slice A0 n0 c0, .slice A1 n1 c1, .slice A2 n2 c2]
  have hwC : Below w.heap.size w (w.alloc (.cells #[.slice A0 n0 c0, .slice A1 n1 c1, .slice A2 n2 c2] 34)) := below_alloc (Nat.le_refl _) (Below.refl _ _)
  have q0 := bx.c0; have q1 := bx.c1; have q2 := bx.c2
  clear hf
  go_enter Try.func79, Try.ntmps79
  go_wp2
  go_loopw [5] (fun i wr => ∃ k : Nat, k ≤ n2 ∧ i = .int .i64 k ∧ Box wr w.heap.size 34 #[.slice A0 n0 c0, .slice A1 n1 c1, .slice A2 n2 c2] ∧ Below w.heap.size w wr) (fun i _ => n2 - (intOf i).toNat)
  case atStart => exact ⟨0, Nat.zero_le _, rfl, bx, hwC⟩
  case round =>
    clear bx hwC q0 q1 q2
    obtain ⟨k, hk, rfl, bx, hbr⟩ := hrel
    by_cases hlt : k < n2
    · obtain ⟨b, off, rfl, hc⟩ := (hp.keep (keeps_below hbr)).at_ hlt
      rw [gi_neg hlt] at hc
      have hki : (k : Int) < (n2 : Int) := by omega
      have hk0 : (0 : Int) ≤ (k : Int) := by omega
      go_wp2_with fail
      go_quiet (fail)
      go_wp2
      exact ⟨⟨k + 1, by omega, by go_num, bx.drewN _, below_drewN hbr _⟩, by simp [intOf]; omega⟩
    · go_wp2
      go_ret
      exact ⟨rfl, hbr.mono hB⟩

end Go.Proofs.Ytblmcmccdeelgaa
namespace Go.Proofs.Ytblmcmccdeelgaa
open Go.RowKit

theorem twoH_3_9 {P : Program} {Q : Exit → Act → World → Prop} {md : Region.Mode} {S : World → Prop} {fuel : Nat} {listed : Array Bool} {a : Act} {w : World} {o0 o1 o2 o3 o4 o5 o6 o7 o8 o9 : Oper} {r : List Oper} (hr : Region.ready md (List.toArray (o0 :: o1 :: o2 :: o3 :: o4 :: o5 :: o6 :: o7 :: o8 :: o9 :: r)) listed = [3, 9])
    (h1 : ∀ K' : Act → World → Prop, Shut (∀ a w, S w → (S w → wpAnyH P md (List.toArray (o0 :: o1 :: o2 :: o3 :: o4 :: o5 :: o6 :: o7 :: o8 :: o9 :: r)) Q S fuel (listed.setIfInBounds 3 true) a w) → K' a w) → if Region.wanted o3 (yielded (List.toArray (o0 :: o1 :: o2 :: o3 :: o4 :: o5 :: o6 :: o7 :: o8 :: o9 :: r)) a.tmps) = true then Oper.wp P o3 a w K' Q else K' (a.put o3.dst undef) w) (h2 : ∀ K' : Act → World → Prop, Shut (∀ a w, S w → (S w → wpAnyH P md (List.toArray (o0 :: o1 :: o2 :: o3 :: o4 :: o5 :: o6 :: o7 :: o8 :: o9 :: r)) Q S fuel (listed.setIfInBounds 9 true) a w) → K' a w) → if Region.wanted o9 (yielded (List.toArray (o0 :: o1 :: o2 :: o3 :: o4 :: o5 :: o6 :: o7 :: o8 :: o9 :: r)) a.tmps) = true then Oper.wp P o9 a w K' Q else K' (a.put o9.dst undef) w) : wpAnyH P md (List.toArray (o0 :: o1 :: o2 :: o3 :: o4 :: o5 :: o6 :: o7 :: o8 :: o9 :: r)) Q S (fuel + 1) listed a w :=
  wpAnyH_ready (rs := [3, 9]) hr (by simp) (AllReadyH.cons rfl h1 (AllReadyH.cons rfl h2 AllReadyH.nil))
theorem OArn.chgB7 {w w' : World} {lo b : Nat} {t : TypeId} {xs : Array Value} {s0 s1 : Value} {z : ArD} (h : OArn w lo s0 s1 z) (hb : Box w b t xs) (h1 : 2 ≠ t) (h2 : 27 ≠ t) (hc : Chg (fun x => x = b) w w') : OArn w' lo s0 s1 z := by
  obtain ⟨cs, ⟨k0, k1, k2⟩, k4⟩ := h
  have no : ∀ {v : Value} {xs : List Int}, OI 2 w lo v xs → ∀ z, v.ownBlock = some z → ¬ z = b := fun ho z hz e => row_box ho hb h1 (by rw [hz, e])
  exact ⟨cs, ⟨k0.chg hc (no k0), row_chg k1 hc (fun z hz e => row_box k1 hb h2 (by rw [hz, e])), fun i hi => (k2 i hi).chg hc (no (k2 i hi))⟩, k4⟩
theorem OI.chgBox {w w' : World} {lo b : Nat} {t : TypeId} {xs : Array Value} {v : Value} {l : List Int} (h : OI 2 w lo v l) (hb : Box w b t xs) (h1 : 2 ≠ t) (hc : Chg (fun x => x = b) w w') : OI 2 w' lo v l :=
  h.chg hc fun z hz e => row_box h hb h1 (by rw [hz]; exact congrArg some e)
set_option maxRecDepth 100000 in
set_option maxHeartbeats 3200000 in
theorem onlyBy (s0 s1 s2 : Value) (g : ParD) (C : Option Addr) (d : Nat) (w : World) (B : Nat) (hB : B ≤ w.heap.size) (hag : RPv w s0 s1 s2 g) (hp : RI w C g.1.length d (negL g.1.length)) (hpb : parB g = true) :
    Calls Try.prog 71 #[.agg #[s0, s1, s2], .slice C g.1.length d] w fun e w' => ∃ t0 t1 t2, e = .returned (.tuple #[.agg #[t0, t1, t2], .bool true]) ∧ RPv w' t0 t1 t2 g ∧ Below B w w' := by
  have hf := finePar_of hpb
  obtain ⟨A0, n0, c0, A1, n1, c1, A2, n2, c2, rfl, rfl, rfl⟩ := hag.form
  have b1 := hag.ri.cap; have b2 := hag.ri.top; have b3 := hp.cap; have b4 := hp.top; have b5 := hag.rii.cap; have b6 := hag.rii.top; have b7 := hag.rp.cap; have b8 := hag.rp.top
  have e0 : n2 = n0 := by rw [← hag.rp.len, ← hag.ri.len]; exact hf.2.1
  have e1 : n2 = n1 := by rw [← hag.rp.len, ← hag.rii.len, hf.2.1]; exact hf.1.2.2.1.symm
  subst e0; subst e1
  have HN := Lib.hid hag.ri.len; have HN2 := Lib.hid hag.rp.len; have HM := Lib.hid hag.rii.len
  have hnb : n2 ≤ 256 := by have := hf.1.2.1; rw [HN.out] at this; exact this
  have HF := Lib.hid hf; have HPB := Lib.hid hpb
  have hp0 := hp
  rw [HN.out] at hp b3 ⊢
  have hba : Below w.heap.size w ((w.alloc (.cells #[.slice A0 n2 c0, .slice A1 n2 c1, .slice A2 n2 c2] 34)).alloc (.cells #[.slice none 0 0, .slice none 0 0, .slice none 0 0] 34)) := below_alloc (Nat.le_refl _) (below_alloc (Nat.le_refl _) (Below.refl _ _))
  have bxL := (Box.new w 34 #[.slice A0 n2 c0, .slice A1 n2 c1, .slice A2 n2 c2]).alloc (.cells #[.slice none 0 0, .slice none 0 0, .slice none 0 0] 34)
  have brL : Box ((w.alloc (.cells #[.slice A0 n2 c0, .slice A1 n2 c1, .slice A2 n2 c2] 34)).alloc (.cells #[.slice none 0 0, .slice none 0 0, .slice none 0 0] 34)) (w.heap.size + 1) 34 #[.slice none 0 0, .slice none 0 0, .slice none 0 0] := Box.new' (by simp)
  have q0 := bxL.c0; have q1 := bxL.c1; have q2 := bxL.c2
  clear hf hpb
  go_enter Try.func71, Try.ntmps71
  go_wp2_with fail
  refine (specParityOk _ _ _ g _ _ (Nat.le_refl _) (hag.keep (keeps_below hba))).mono ?_; rintro e w1 ⟨rfl, hb1⟩
  rw [HPB.out]
  have hw1 := below_then hb1 hba.size hba
  have bx1 := bxL.on hb1; have br1 := brL.on hb1
  clear q0 q1 q2 hba bxL brL hb1
  have q0 := bx1.c0; have q1 := bx1.c1; have q2 := bx1.c2
  have hl7 : ∀ w', Below w.heap.size w w' → Calls Try.prog 79 #[.agg #[.slice A0 n2 c0, .slice A1 n2 c1, .slice A2 n2 c2], .slice C n2 d] w' fun e w'' => e = .returned (.bool true) ∧ Below w'.heap.size w' w'' := fun w' hb => by
    have h := l7Picks _ _ _ g C d w' _ (Nat.le_refl _) (hag.keep (keeps_below hb)) (hp0.keep (keeps_below hb)) HF.out
    rw [HN.out] at h
    exact h
  have HL7 := Lib.hid hl7
  clear hl7 hp0
  go_wp2_with fail
  refine (HL7.out _ hw1).mono ?_; rintro e w2 ⟨rfl, hb2⟩
  have hw2 := below_then hb2 hw1.size hw1
  have bx2 := bx1.on hb2; have br2 := br1.on hb2
  clear q0 q1 q2 hw1 bx1 br1 hb2
  have q0 := bx2.c0; have q1 := bx2.c1; have q2 := bx2.c2
  go_upto_region 3 with (fail)
  go_cut [6] (fun u6 wx => Hid (∃ (bb : Nat) (X0 X2 : Option Addr) (x0 x2 : Nat), u6 = .pointer (some ⟨bb, 0, none⟩) ∧ Box wx bb 34 #[.slice X0 n2 x0, .slice none 0 0, .slice X2 n2 x2] ∧ OI 2 wx (w.heap.size + 2) (.slice X0 n2 x0) g.1 ∧ OI 2 wx (w.heap.size + 2) (.slice X2 n2 x2) g.2.2 ∧ w.heap.size + 2 ≤ bb ∧ Box wx w.heap.size 34 #[.slice A0 n2 c0, .slice A1 n2 c1, .slice A2 n2 c2] ∧ Box wx (w.heap.size + 1) 34 #[.slice none 0 0, .slice none 0 0, .slice none 0 0] ∧ Below w.heap.size w wx))
  case first =>
    have hwC := Below.drew hw2
    have bxC : Box w2.drew w.heap.size 34 #[.slice A0 n2 c0, .slice A1 n2 c1, .slice A2 n2 c2] := bx2
    have brC : Box w2.drew (w.heap.size + 1) 34 #[.slice none 0 0, .slice none 0 0, .slice none 0 0] := br2
    have hlA : w.heap.size + 2 ≤ w2.drew.heap.size := brC.lt
    replace q0 := bxC.c0; replace q1 := bxC.c1; replace q2 := bxC.c2
    refine wp_region_held_drew (S := (fun w' => w'.cell? ⟨w.heap.size, 0, none⟩ = some (.slice A0 n2 c0) ∧ w'.cell? ⟨w.heap.size, 1, none⟩ = some (.slice A1 n2 c1) ∧ w'.cell? ⟨w.heap.size, 2, none⟩ = some (.slice A2 n2 c2))) (by kernel_rfl) (⟨q0, q1, q2⟩) (fun hHeld => ?_)
    clear hw2 bx2 br2
    generalize w2.drew = wD at *
    have hlD : w.heap.size + 2 ≤ wD.heap.size := brC.lt
    refine takeH0 (v := ?_) (by kernel_rfl) (by kernel_rfl) (by kernel_rfl) (fun _ _ _ h => h) hHeld (by rfl) ?_ ?_
    rotate_left; · (intro w hSw; (try dsimp only at hSw); go_simp; try with_reducible rfl)
    try simp only [Act.put, List.setIfInBounds_toArray, List.set_cons_zero, List.set_cons_succ]
    refine takeH1 (v := ?_) (by kernel_rfl) (by kernel_rfl) (by kernel_rfl) (fun _ _ _ h => h) hHeld (by rfl) ?_ ?_
    rotate_left; · (intro w hSw; (try dsimp only at hSw); go_simp; try with_reducible rfl)
    try simp only [Act.put, List.setIfInBounds_toArray, List.set_cons_zero, List.set_cons_succ]
    refine takeH2 (v := ?_) (by kernel_rfl) (by kernel_rfl) (by kernel_rfl) (fun _ _ _ h => h) hHeld (by rfl) ?_ ?_
    rotate_left; · (intro w hSw; (try dsimp only at hSw); go_simp; try with_reducible rfl)
    try simp only [Act.put, List.setIfInBounds_toArray, List.set_cons_zero, List.set_cons_succ]
    refine takeH5 (v := ?_) (by kernel_rfl) (by kernel_rfl) (by kernel_rfl) (fun _ _ _ h => h) hHeld (by rfl) ?_ ?_
    rotate_left; · (intro w hSw; (try dsimp only at hSw); go_simp; try with_reducible rfl)
    try simp only [Act.put, List.setIfInBounds_toArray, List.set_cons_zero, List.set_cons_succ]
    refine takeH6 (v := ?_) (by kernel_rfl) (by kernel_rfl) (by kernel_rfl) (fun _ _ _ h => h) hHeld (by rfl) ?_ ?_
    rotate_left; · (intro w hSw; (try dsimp only at hSw); go_simp; try with_reducible rfl)
    try simp only [Act.put, List.setIfInBounds_toArray, List.set_cons_zero, List.set_cons_succ]
    refine twoH_3_9 (by kernel_rfl) (fun K hK => ?_) (fun K hK => ?_)
    · go_simp
      go_at_call 77
      refine (l1Copy _ _ _ g.1 _ _ (Nat.le_refl _) (hag.ri.keep (keeps_below hwC)) (by omega)).mono ?_; rintro e w3 ⟨v0, rfl, ho0, hb3⟩
      obtain ⟨X0, x0, hve⟩ := ho0.form
      rw [HN.out] at hve
      subst hve
      have shb3 := hb3.size
      replace hwC := below_then hb3 hwC.size hwC
      replace bxC := bxC.on hb3
      replace brC := brC.on hb3
      clear q0 q1 q2
      have q0 := bxC.c0; have q1 := bxC.c1; have q2 := bxC.c2
      go_wp2_with fail
      refine hK.out _ _ (⟨q0, q1, q2⟩) (fun hHeld => ?_)
      clear hK K
      try simp only [Act.put, List.setIfInBounds_toArray, List.set_cons_zero, List.set_cons_succ]
      refine takeH4 (v := ?_) (by kernel_rfl) (by kernel_rfl) (by kernel_rfl) (fun _ _ _ h => h) hHeld (by rfl) ?_ ?_
      rotate_left; · (intro w hSw; (try dsimp only at hSw); go_simp; try with_reducible rfl)
      try simp only [Act.put, List.setIfInBounds_toArray, List.set_cons_zero, List.set_cons_succ]
      refine twoH_7_9 (by kernel_rfl) (fun K hK => ?_) (fun K hK => ?_)
      · go_simp
        go_at_call 77
        refine (l1Copy _ _ _ g.2.2 _ _ (Nat.le_refl _) (hag.rp.keep (keeps_below hwC)) (by omega)).mono ?_; rintro e w7 ⟨v2, rfl, ho2, hb7⟩
        obtain ⟨X2, x2, hve⟩ := ho2.form
        rw [HN2.out] at hve
        subst hve
        have shb7 := hb7.size
        replace hwC := below_then hb7 hwC.size hwC
        replace bxC := bxC.on hb7
        replace brC := brC.on hb7
        replace ho0 := ho0.below hb7
        clear q0 q1 q2
        have q0 := bxC.c0; have q1 := bxC.c1; have q2 := bxC.c2
        go_wp2_with fail
        refine hK.out _ _ (⟨q0, q1, q2⟩) (fun hHeld => ?_)
        clear hK K
        try simp only [Act.put, List.setIfInBounds_toArray, List.set_cons_zero, List.set_cons_succ]
        refine takeH8 (v := ?_) (by kernel_rfl) (by kernel_rfl) (by kernel_rfl) (fun _ _ _ h => h) hHeld (by rfl) ?_ ?_
        rotate_left; · (intro w hSw; (try dsimp only at hSw); go_simp; try with_reducible rfl)
        try simp only [Act.put, List.setIfInBounds_toArray, List.set_cons_zero, List.set_cons_succ]
        refine callH9 (by kernel_rfl) (fun K hK => ?_)
        have q0A : (w7.alloc (.cells #[.slice none 0 0, .slice none 0 0, .slice none 0 0] 34)).cell? ⟨w.heap.size, 0, none⟩ = some (.slice A0 n2 c0) := keepA q0
        have q1A : (w7.alloc (.cells #[.slice none 0 0, .slice none 0 0, .slice none 0 0] 34)).cell? ⟨w.heap.size, 1, none⟩ = some (.slice A1 n2 c1) := keepA q1
        have q2A : (w7.alloc (.cells #[.slice none 0 0, .slice none 0 0, .slice none 0 0] 34)).cell? ⟨w.heap.size, 2, none⟩ = some (.slice A2 n2 c2) := keepA q2
        go_simp
        refine hK.out _ _ (⟨q0A, q1A, q2A⟩) (fun hHeld => ?_)
        clear hK K
        try simp only [Act.put, List.setIfInBounds_toArray, List.set_cons_zero, List.set_cons_succ]
        have hl9 : w.heap.size + 2 ≤ w7.heap.size := brC.lt
        have hbA : Below w7.heap.size w7 (w7.alloc (.cells #[.slice none 0 0, .slice none 0 0, .slice none 0 0] 34)) := below_alloc (Nat.le_refl _) (Below.refl _ _)
        have bz : Box (w7.alloc (.cells #[.slice none 0 0, .slice none 0 0, .slice none 0 0] 34)) w7.heap.size 34 #[.slice none 0 0, .slice none 0 0, .slice none 0 0] := Box.new _ _ _
        have shbA := hbA.size
        replace hwC := below_then hbA hwC.size hwC
        replace bxC := bxC.on hbA
        replace brC := brC.on hbA
        replace ho0 := ho0.below hbA
        replace ho2 := ho2.below hbA
        clear q0 q1 q2
        have q0 := bxC.c0; have q1 := bxC.c1; have q2 := bxC.c2
        generalize w7.alloc (.cells #[.slice none 0 0, .slice none 0 0, .slice none 0 0] 34) = wA at *
        refine callH10 (by kernel_rfl) (fun K hK => ?_)
        have z0 := bz.c0; have z1 := bz.c1; have z2 := bz.c2; have y0 := bz.hot 0; have y1 := bz.hot 1; have y2 := bz.hot 2
        have sA := bz.lt
        have sX := hlA
        have hch := Chg.set3 wA (w7.heap.size) (.slice X0 n2 x0) (.slice none 0 0) (.slice X2 n2 x2)
        have hz5 := bz.set3 (.slice X0 n2 x0) (.slice none 0 0) (.slice X2 n2 x2)
        have h05 := ho0.chgBox bz (by decide) hch
        have h25 := ho2.chgBox bz (by decide) hch
        have hx5 := (hch.block _ bxC.lt (fun e => by have h5 : w.heap.size = w7.heap.size := e; omega)).trans bxC
        have hr5 := (hch.block _ brC.lt (fun e => by have h5 : w.heap.size + 1 = w7.heap.size := e; omega)).trans brC
        have hw5 := hwC.trans (hch.below hwC.size (fun x hx => by have h5 : x = w7.heap.size := hx; omega))
        have q0A : (((wA.setCell ⟨w7.heap.size, 0, none⟩ (.slice X0 n2 x0)).setCell ⟨w7.heap.size, 1, none⟩ (.slice none 0 0)).setCell ⟨w7.heap.size, 2, none⟩ (.slice X2 n2 x2)).cell? ⟨w.heap.size, 0, none⟩ = some (.slice A0 n2 c0) := Box.c0 (w := (((wA.setCell ⟨w7.heap.size, 0, none⟩ (.slice X0 n2 x0)).setCell ⟨w7.heap.size, 1, none⟩ (.slice none 0 0)).setCell ⟨w7.heap.size, 2, none⟩ (.slice X2 n2 x2))) (t := 34) hx5
        have q1A : (((wA.setCell ⟨w7.heap.size, 0, none⟩ (.slice X0 n2 x0)).setCell ⟨w7.heap.size, 1, none⟩ (.slice none 0 0)).setCell ⟨w7.heap.size, 2, none⟩ (.slice X2 n2 x2)).cell? ⟨w.heap.size, 1, none⟩ = some (.slice A1 n2 c1) := Box.c1 (w := (((wA.setCell ⟨w7.heap.size, 0, none⟩ (.slice X0 n2 x0)).setCell ⟨w7.heap.size, 1, none⟩ (.slice none 0 0)).setCell ⟨w7.heap.size, 2, none⟩ (.slice X2 n2 x2))) (t := 34) hx5
        have q2A : (((wA.setCell ⟨w7.heap.size, 0, none⟩ (.slice X0 n2 x0)).setCell ⟨w7.heap.size, 1, none⟩ (.slice none 0 0)).setCell ⟨w7.heap.size, 2, none⟩ (.slice X2 n2 x2)).cell? ⟨w.heap.size, 2, none⟩ = some (.slice A2 n2 c2) := Box.c2 (w := (((wA.setCell ⟨w7.heap.size, 0, none⟩ (.slice X0 n2 x0)).setCell ⟨w7.heap.size, 1, none⟩ (.slice none 0 0)).setCell ⟨w7.heap.size, 2, none⟩ (.slice X2 n2 x2))) (t := 34) hx5
        go_simp
        refine hK.out _ _ (⟨q0A, q1A, q2A⟩) (fun hHeld => ?_)
        clear hK K
        try simp only [Act.put, List.setIfInBounds_toArray, List.set_cons_zero, List.set_cons_succ]
        refine wpAnyH_done (by kernel_rfl) ?_ _
        go_wp2_with fail; go_meet
        refine Lib.hid ⟨w7.heap.size, _, _, _, _, rfl, hz5, h05.more (by omega), h25.more (by omega), hl9, hx5, hr5, hw5⟩
      · have q0A : (w3.alloc (.cells #[.slice none 0 0, .slice none 0 0, .slice none 0 0] 34)).cell? ⟨w.heap.size, 0, none⟩ = some (.slice A0 n2 c0) := keepA q0
        have q1A : (w3.alloc (.cells #[.slice none 0 0, .slice none 0 0, .slice none 0 0] 34)).cell? ⟨w.heap.size, 1, none⟩ = some (.slice A1 n2 c1) := keepA q1
        have q2A : (w3.alloc (.cells #[.slice none 0 0, .slice none 0 0, .slice none 0 0] 34)).cell? ⟨w.heap.size, 2, none⟩ = some (.slice A2 n2 c2) := keepA q2
        go_simp
        refine hK.out _ _ (⟨q0A, q1A, q2A⟩) (fun hHeld => ?_)
        clear hK K
        try simp only [Act.put, List.setIfInBounds_toArray, List.set_cons_zero, List.set_cons_succ]
        have hl9 : w.heap.size + 2 ≤ w3.heap.size := brC.lt
        have hbA : Below w3.heap.size w3 (w3.alloc (.cells #[.slice none 0 0, .slice none 0 0, .slice none 0 0] 34)) := below_alloc (Nat.le_refl _) (Below.refl _ _)
        have bz : Box (w3.alloc (.cells #[.slice none 0 0, .slice none 0 0, .slice none 0 0] 34)) w3.heap.size 34 #[.slice none 0 0, .slice none 0 0, .slice none 0 0] := Box.new _ _ _
        have shbA := hbA.size
        replace hwC := below_then hbA hwC.size hwC
        replace bxC := bxC.on hbA
        replace brC := brC.on hbA
        replace ho0 := ho0.below hbA
        clear q0 q1 q2
        have q0 := bxC.c0; have q1 := bxC.c1; have q2 := bxC.c2
        generalize w3.alloc (.cells #[.slice none 0 0, .slice none 0 0, .slice none 0 0] 34) = wA at *
        refine callH7 (by kernel_rfl) (fun K hK => ?_)
        go_simp
        go_at_call 77
        refine (l1Copy _ _ _ g.2.2 _ _ (Nat.le_refl _) (hag.rp.keep (keeps_below hwC)) (by omega)).mono ?_; rintro e w7 ⟨v2, rfl, ho2, hb7⟩
        obtain ⟨X2, x2, hve⟩ := ho2.form
        rw [HN2.out] at hve
        subst hve
        have shb7 := hb7.size
        replace hwC := below_then hb7 hwC.size hwC
        replace bxC := bxC.on hb7
        replace brC := brC.on hb7
        replace ho0 := ho0.below hb7
        replace bz := bz.on hb7
        clear q0 q1 q2
        have q0 := bxC.c0; have q1 := bxC.c1; have q2 := bxC.c2
        go_wp2_with fail
        refine hK.out _ _ (⟨q0, q1, q2⟩) (fun hHeld => ?_)
        clear hK K
        try simp only [Act.put, List.setIfInBounds_toArray, List.set_cons_zero, List.set_cons_succ]
        refine takeH8 (v := ?_) (by kernel_rfl) (by kernel_rfl) (by kernel_rfl) (fun _ _ _ h => h) hHeld (by rfl) ?_ ?_
        rotate_left; · (intro w hSw; (try dsimp only at hSw); go_simp; try with_reducible rfl)
        try simp only [Act.put, List.setIfInBounds_toArray, List.set_cons_zero, List.set_cons_succ]
        refine callH10 (by kernel_rfl) (fun K hK => ?_)
        have z0 := bz.c0; have z1 := bz.c1; have z2 := bz.c2; have y0 := bz.hot 0; have y1 := bz.hot 1; have y2 := bz.hot 2
        have sA := bz.lt
        have sX := hlA
        have hch := Chg.set3 w7 (w3.heap.size) (.slice X0 n2 x0) (.slice none 0 0) (.slice X2 n2 x2)
        have hz5 := bz.set3 (.slice X0 n2 x0) (.slice none 0 0) (.slice X2 n2 x2)
        have h05 := ho0.chgBox bz (by decide) hch
        have h25 := ho2.chgBox bz (by decide) hch
        have hx5 := (hch.block _ bxC.lt (fun e => by have h5 : w.heap.size = w3.heap.size := e; omega)).trans bxC
        have hr5 := (hch.block _ brC.lt (fun e => by have h5 : w.heap.size + 1 = w3.heap.size := e; omega)).trans brC
        have hw5 := hwC.trans (hch.below hwC.size (fun x hx => by have h5 : x = w3.heap.size := hx; omega))
        have q0A : (((w7.setCell ⟨w3.heap.size, 0, none⟩ (.slice X0 n2 x0)).setCell ⟨w3.heap.size, 1, none⟩ (.slice none 0 0)).setCell ⟨w3.heap.size, 2, none⟩ (.slice X2 n2 x2)).cell? ⟨w.heap.size, 0, none⟩ = some (.slice A0 n2 c0) := Box.c0 (w := (((w7.setCell ⟨w3.heap.size, 0, none⟩ (.slice X0 n2 x0)).setCell ⟨w3.heap.size, 1, none⟩ (.slice none 0 0)).setCell ⟨w3.heap.size, 2, none⟩ (.slice X2 n2 x2))) (t := 34) hx5
        have q1A : (((w7.setCell ⟨w3.heap.size, 0, none⟩ (.slice X0 n2 x0)).setCell ⟨w3.heap.size, 1, none⟩ (.slice none 0 0)).setCell ⟨w3.heap.size, 2, none⟩ (.slice X2 n2 x2)).cell? ⟨w.heap.size, 1, none⟩ = some (.slice A1 n2 c1) := Box.c1 (w := (((w7.setCell ⟨w3.heap.size, 0, none⟩ (.slice X0 n2 x0)).setCell ⟨w3.heap.size, 1, none⟩ (.slice none 0 0)).setCell ⟨w3.heap.size, 2, none⟩ (.slice X2 n2 x2))) (t := 34) hx5
        have q2A : (((w7.setCell ⟨w3.heap.size, 0, none⟩ (.slice X0 n2 x0)).setCell ⟨w3.heap.size, 1, none⟩ (.slice none 0 0)).setCell ⟨w3.heap.size, 2, none⟩ (.slice X2 n2 x2)).cell? ⟨w.heap.size, 2, none⟩ = some (.slice A2 n2 c2) := Box.c2 (w := (((w7.setCell ⟨w3.heap.size, 0, none⟩ (.slice X0 n2 x0)).setCell ⟨w3.heap.size, 1, none⟩ (.slice none 0 0)).setCell ⟨w3.heap.size, 2, none⟩ (.slice X2 n2 x2))) (t := 34) hx5
        go_simp
        refine hK.out _ _ (⟨q0A, q1A, q2A⟩) (fun hHeld => ?_)
        clear hK K
        try simp only [Act.put, List.setIfInBounds_toArray, List.set_cons_zero, List.set_cons_succ]
        refine wpAnyH_done (by kernel_rfl) ?_ _
        go_wp2_with fail; go_meet
        refine Lib.hid ⟨w3.heap.size, _, _, _, _, rfl, hz5, h05.more (by omega), h25.more (by omega), hl9, hx5, hr5, hw5⟩
    · have q0A : (wD.alloc (.cells #[.slice none 0 0, .slice none 0 0, .slice none 0 0] 34)).cell? ⟨w.heap.size, 0, none⟩ = some (.slice A0 n2 c0) := keepA q0
      have q1A : (wD.alloc (.cells #[.slice none 0 0, .slice none 0 0, .slice none 0 0] 34)).cell? ⟨w.heap.size, 1, none⟩ = some (.slice A1 n2 c1) := keepA q1
      have q2A : (wD.alloc (.cells #[.slice none 0 0, .slice none 0 0, .slice none 0 0] 34)).cell? ⟨w.heap.size, 2, none⟩ = some (.slice A2 n2 c2) := keepA q2
      go_simp
      refine hK.out _ _ (⟨q0A, q1A, q2A⟩) (fun hHeld => ?_)
      clear hK K
      try simp only [Act.put, List.setIfInBounds_toArray, List.set_cons_zero, List.set_cons_succ]
      have hl9 : w.heap.size + 2 ≤ wD.heap.size := hlA
      have hbA : Below wD.heap.size wD (wD.alloc (.cells #[.slice none 0 0, .slice none 0 0, .slice none 0 0] 34)) := below_alloc (Nat.le_refl _) (Below.refl _ _)
      have bz : Box (wD.alloc (.cells #[.slice none 0 0, .slice none 0 0, .slice none 0 0] 34)) wD.heap.size 34 #[.slice none 0 0, .slice none 0 0, .slice none 0 0] := Box.new _ _ _
      have shbA := hbA.size
      replace hwC := below_then hbA hwC.size hwC
      replace bxC := bxC.on hbA
      replace brC := brC.on hbA
      clear q0 q1 q2
      have q0 := bxC.c0; have q1 := bxC.c1; have q2 := bxC.c2
      generalize wD.alloc (.cells #[.slice none 0 0, .slice none 0 0, .slice none 0 0] 34) = wA at *
      refine callH3 (by kernel_rfl) (fun K hK => ?_)
      go_simp
      go_at_call 77
      refine (l1Copy _ _ _ g.1 _ _ (Nat.le_refl _) (hag.ri.keep (keeps_below hwC)) (by omega)).mono ?_; rintro e w3 ⟨v0, rfl, ho0, hb3⟩
      obtain ⟨X0, x0, hve⟩ := ho0.form
      rw [HN.out] at hve
      subst hve
      have shb3 := hb3.size
      replace hwC := below_then hb3 hwC.size hwC
      replace bxC := bxC.on hb3
      replace brC := brC.on hb3
      replace bz := bz.on hb3
      clear q0 q1 q2
      have q0 := bxC.c0; have q1 := bxC.c1; have q2 := bxC.c2
      go_wp2_with fail
      refine hK.out _ _ (⟨q0, q1, q2⟩) (fun hHeld => ?_)
      clear hK K
      try simp only [Act.put, List.setIfInBounds_toArray, List.set_cons_zero, List.set_cons_succ]
      refine takeH4 (v := ?_) (by kernel_rfl) (by kernel_rfl) (by kernel_rfl) (fun _ _ _ h => h) hHeld (by rfl) ?_ ?_
      rotate_left; · (intro w hSw; (try dsimp only at hSw); go_simp; try with_reducible rfl)
      try simp only [Act.put, List.setIfInBounds_toArray, List.set_cons_zero, List.set_cons_succ]
      refine callH7 (by kernel_rfl) (fun K hK => ?_)
      go_simp
      go_at_call 77
      refine (l1Copy _ _ _ g.2.2 _ _ (Nat.le_refl _) (hag.rp.keep (keeps_below hwC)) (by omega)).mono ?_; rintro e w7 ⟨v2, rfl, ho2, hb7⟩
      obtain ⟨X2, x2, hve⟩ := ho2.form
      rw [HN2.out] at hve
      subst hve
      have shb7 := hb7.size
      replace hwC := below_then hb7 hwC.size hwC
      replace bxC := bxC.on hb7
      replace brC := brC.on hb7
      replace ho0 := ho0.below hb7
      replace bz := bz.on hb7
      clear q0 q1 q2
      have q0 := bxC.c0; have q1 := bxC.c1; have q2 := bxC.c2
      go_wp2_with fail
      refine hK.out _ _ (⟨q0, q1, q2⟩) (fun hHeld => ?_)
      clear hK K
      try simp only [Act.put, List.setIfInBounds_toArray, List.set_cons_zero, List.set_cons_succ]
      refine takeH8 (v := ?_) (by kernel_rfl) (by kernel_rfl) (by kernel_rfl) (fun _ _ _ h => h) hHeld (by rfl) ?_ ?_
      rotate_left; · (intro w hSw; (try dsimp only at hSw); go_simp; try with_reducible rfl)
      try simp only [Act.put, List.setIfInBounds_toArray, List.set_cons_zero, List.set_cons_succ]
      refine callH10 (by kernel_rfl) (fun K hK => ?_)
      have z0 := bz.c0; have z1 := bz.c1; have z2 := bz.c2; have y0 := bz.hot 0; have y1 := bz.hot 1; have y2 := bz.hot 2
      have sA := bz.lt
      have sX := hlA
      have hch := Chg.set3 w7 (wD.heap.size) (.slice X0 n2 x0) (.slice none 0 0) (.slice X2 n2 x2)
      have hz5 := bz.set3 (.slice X0 n2 x0) (.slice none 0 0) (.slice X2 n2 x2)
      have h05 := ho0.chgBox bz (by decide) hch
      have h25 := ho2.chgBox bz (by decide) hch
      have hx5 := (hch.block _ bxC.lt (fun e => by have h5 : w.heap.size = wD.heap.size := e; omega)).trans bxC
      have hr5 := (hch.block _ brC.lt (fun e => by have h5 : w.heap.size + 1 = wD.heap.size := e; omega)).trans brC
      have hw5 := hwC.trans (hch.below hwC.size (fun x hx => by have h5 : x = wD.heap.size := hx; omega))
      have q0A : (((w7.setCell ⟨wD.heap.size, 0, none⟩ (.slice X0 n2 x0)).setCell ⟨wD.heap.size, 1, none⟩ (.slice none 0 0)).setCell ⟨wD.heap.size, 2, none⟩ (.slice X2 n2 x2)).cell? ⟨w.heap.size, 0, none⟩ = some (.slice A0 n2 c0) := Box.c0 (w := (((w7.setCell ⟨wD.heap.size, 0, none⟩ (.slice X0 n2 x0)).setCell ⟨wD.heap.size, 1, none⟩ (.slice none 0 0)).setCell ⟨wD.heap.size, 2, none⟩ (.slice X2 n2 x2))) (t := 34) hx5
      have q1A : (((w7.setCell ⟨wD.heap.size, 0, none⟩ (.slice X0 n2 x0)).setCell ⟨wD.heap.size, 1, none⟩ (.slice none 0 0)).setCell ⟨wD.heap.size, 2, none⟩ (.slice X2 n2 x2)).cell? ⟨w.heap.size, 1, none⟩ = some (.slice A1 n2 c1) := Box.c1 (w := (((w7.setCell ⟨wD.heap.size, 0, none⟩ (.slice X0 n2 x0)).setCell ⟨wD.heap.size, 1, none⟩ (.slice none 0 0)).setCell ⟨wD.heap.size, 2, none⟩ (.slice X2 n2 x2))) (t := 34) hx5
      have q2A : (((w7.setCell ⟨wD.heap.size, 0, none⟩ (.slice X0 n2 x0)).setCell ⟨wD.heap.size, 1, none⟩ (.slice none 0 0)).setCell ⟨wD.heap.size, 2, none⟩ (.slice X2 n2 x2)).cell? ⟨w.heap.size, 2, none⟩ = some (.slice A2 n2 c2) := Box.c2 (w := (((w7.setCell ⟨wD.heap.size, 0, none⟩ (.slice X0 n2 x0)).setCell ⟨wD.heap.size, 1, none⟩ (.slice none 0 0)).setCell ⟨wD.heap.size, 2, none⟩ (.slice X2 n2 x2))) (t := 34) hx5
      go_simp
      refine hK.out _ _ (⟨q0A, q1A, q2A⟩) (fun hHeld => ?_)
      clear hK K
      try simp only [Act.put, List.setIfInBounds_toArray, List.set_cons_zero, List.set_cons_succ]
      refine wpAnyH_done (by kernel_rfl) ?_ _
      go_wp2_with fail; go_meet
      refine Lib.hid ⟨wD.heap.size, _, _, _, _, rfl, hz5, h05.more (by omega), h25.more (by omega), hl9, hx5, hr5, hw5⟩
  case rest =>
    obtain ⟨bb, X0, X2, x0, x2, rfl, bb_, ho0, ho2, hlb, bx_, br_, hwc⟩ := hcut.out
    clear hcut q0 q1 q2 bx2 br2 hw2
    have hbl := bb_.lt; have hbr_ := br_.lt
    have hr0 := OArn.nil wc (w.heap.size + 2)
    have hA : OArn wc (w.heap.size + 2) (.slice none 0 0) (.slice none 0 0) ([], g.2.1.take 0) := hr0
    clear hr0
    go_wp2
    go_loopw [7] (fun i wr => ∃ (k : Nat) (u1 : Value), k ≤ n2 ∧ i = .int .i64 k ∧ OArn wr (w.heap.size + 2) (.slice none 0 0) u1 ([], g.2.1.take k) ∧ OI 2 wr (w.heap.size + 2) (.slice X0 n2 x0) g.1 ∧ OI 2 wr (w.heap.size + 2) (.slice X2 n2 x2) g.2.2 ∧ Box wr bb 34 #[.slice X0 n2 x0, u1, .slice X2 n2 x2] ∧ Box wr w.heap.size 34 #[.slice A0 n2 c0, .slice A1 n2 c1, .slice A2 n2 c2] ∧ Box wr (w.heap.size + 1) 34 #[.slice none 0 0, .slice none 0 0, .slice none 0 0] ∧ Below w.heap.size w wr) (fun i _ => n2 - (intOf i).toNat)
    case atStart => exact ⟨0, _, Nat.zero_le _, rfl, hA, ho0, ho2, bb_, bx_, br_, hwc⟩
    case round =>
      clear hA ho0 ho2 bb_ bx_ br_ hwc
      obtain ⟨k, u1, hk, rfl, hA, ho0, ho2, bb_, bx_, br_, hwr⟩ := hrel
      have hgl : (g.2.1.take k).length = k := by rw [List.length_take, HM.out]; omega
      have HGL := Lib.hid hgl
      obtain ⟨Y0, y0, Y1, y1, e0, e1⟩ := hA.form
      clear e0
      rw [show ([], g.2.1.take k).2.length = k from hgl] at e1
      subst e1
      clear hgl
      by_cases hlt : k < n2
      · have q0 := bx_.c0; have q1 := bx_.c1
        obtain ⟨bn, on, An, nn, cn_, rfl, hcn, rn⟩ := hag.rii.at_ hlt
        have kn := below_cell hwr hcn
        obtain ⟨bp, op, rfl, hcp⟩ := (hp.keep (keeps_below hwr)).at_ hlt
        rw [gi_neg hlt] at hcp
        have lbp : bp < w.heap.size := hp.blk_lt hlt
        have hki : (k : Int) < (n2 : Int) := by omega
        have hk0 : (0 : Int) ≤ (k : Int) := by omega
        have hnn : nn ≤ 16 := by rw [← rn.len]; exact (HF.out.1.2.2.2 k (by rw [HN.out]; exact hlt)).2.1.2
        have HT := Lib.hid (show g.2.1.take (k + 1) = g.2.1.take k ++ [gl g.2.1 k] by rw [List.take_succ_eq_append_getElem (by rw [HM.out]; exact hlt)]; simp [gl, HM.out, hlt])
        go_wp2_with fail
        refine (l1Copy _ _ _ (gl g.2.1 k) _ _ (Nat.le_refl _) (rn.keep (keeps_below hwr)) (by omega)).mono ?_; rintro e w5 ⟨v5, rfl, ho5, hb5⟩
        have hw5 := below_then hb5 hwr.size hwr
        have hlo : w.heap.size + 2 ≤ wr.heap.size := by have := br_.lt; omega
        have hcp5 := below_cell (w := wr) hb5 hcp
        have hop := OPar.ofArn hA hlo (S := fun _ => False) ⟨hb5.os, hb5.tape, hb5.output, hb5.size, fun k hk _ => hb5.block k hk⟩ (fun _ h => h.elim) ho5
        have bb5 := bb_.on hb5; have bx5 := bx_.on hb5; have br5 := br_.on hb5
        have ho05 := ho0.below hb5; have ho25 := ho2.below hb5
        have hlo5 : w.heap.size + 2 ≤ w5.heap.size := Nat.le_trans hlo hb5.size
        have g1 := bb5.c1
        have hkz : (g.2.1.take k).length ≤ 4194304 := by rw [HGL.out]; omega
        obtain ⟨A5, c5, rfl⟩ := ho5.form
        clear q0 q1 kn hcp hA ho0 ho2 bb_ bx_ br_
        go_wp2_with (at_builtin; go_loud (refine wpList_pushU rfl (.tmp 53) (.tmp 55) (by rfl) w5 (w.heap.size + 2) (.slice none 0 0) (.slice Y1 k y1) (.slice A5 (gl g.2.1 k).length c5) ([], g.2.1.take k, gl g.2.1 k) (by rfl) (by rfl) hlo5 hop hkz ?_); intro t1 w9 ho9 hb9 hc9 hat9; obtain ⟨A8, c8, A9, c9, h0e9, h1e9⟩ := ho9.form; have h1e : t1 = .slice A9 (k + 1) c9 := (by rw [h1e9]; show Value.slice A9 ((g.2.1.take k ++ [gl g.2.1 k])).length c9 = _; rw [List.length_append, HGL.out]; rfl); clear h0e9 h1e9 hat9; subst h1e; have hne9 : ∀ b, (Value.slice Y1 k y1).ownBlock = some b → w.heap.size + 2 ≤ b := fun b hb => hop.oldA b (.inr (.inl hb)); have hnb9 : ¬ (Value.slice Y1 k y1).ownBlock = some bb := (by obtain ⟨cs, ⟨_, k1, _⟩, _⟩ := hop; exact row_box k1 bb5 (by decide)); have bb9 : Box w9 bb 34 #[.slice X0 n2 x0, .slice Y1 k y1, .slice X2 n2 x2] := (hc9.block _ bb5.lt hnb9).trans bb5; have g9 := bb9.c1; have f9 := bb9.hot 1)
        have hown : ∀ {v : Value} {xs : List Int}, OI 2 w5 (w.heap.size + 2) v xs → ∀ b, v.ownBlock = some b → ¬ (Value.slice Y1 k y1).ownBlock = some b := fun ho b hb hs => by
          obtain ⟨cs, ⟨_, k1, _⟩, _⟩ := hop
          exact own_ne ho k1 (by decide) b hb hs
        have h09 := ho05.chg hc9 (hown ho05); have h29 := ho25.chg hc9 (hown ho25)
        have bx9 : Box w9 w.heap.size 34 #[.slice A0 n2 c0, .slice (some ⟨bn, on, none⟩) n2 c1, .slice A2 n2 c2] := (hc9.block _ bx5.lt (fun e => by have := hne9 _ e; omega)).trans bx5
        have br9 : Box w9 (w.heap.size + 1) 34 #[.slice none 0 0, .slice none 0 0, .slice none 0 0] := (hc9.block _ br5.lt (fun e => by have := hne9 _ e; omega)).trans br5
        have hw9 := hw5.trans (hb9.mono (by omega))
        have chS : Chg (fun x => x = bb) w9 (w9.setCell ⟨bb, 1, none⟩ (.slice A9 (k + 1) c9)) := Chg.set ⟨bb, 1, none⟩ _
        have hAF := Lib.hid (show OArn (w9.setCell ⟨bb, 1, none⟩ (.slice A9 (k + 1) c9)) (w.heap.size + 2) (.slice none 0 0) (.slice A9 (k + 1) c9) ([], g.2.1.take (k + 1)) by rw [HT.out]; exact ho9.chgB7 bb9 (by decide) (by decide) chS)
        have h0F := Lib.hid (h09.chgBox bb9 (by decide) chS); have h2F := Lib.hid (h29.chgBox bb9 (by decide) chS)
        have bbF := Lib.hid (show Box (w9.setCell ⟨bb, 1, none⟩ (.slice A9 (k + 1) c9)) bb 34 #[.slice X0 n2 x0, .slice A9 (k + 1) c9, .slice X2 n2 x2] by have := bb9.set_ 1 (.slice A9 (k + 1) c9); simpa using this)
        have bxF := Lib.hid (bx9.far (p := ⟨bb, 1, none⟩) (by show w.heap.size ≠ bb; omega) (.slice A9 (k + 1) c9)); have brF := Lib.hid (br9.far (p := ⟨bb, 1, none⟩) (by show w.heap.size + 1 ≠ bb; omega) (.slice A9 (k + 1) c9))
        have hwF := Lib.hid (below_set (p := ⟨bb, 1, none⟩) (u := .slice A9 (k + 1) c9) (by show w.heap.size ≤ bb; omega) hw9)
        clear chS h09 h29 bx9 br9 hw9 ho9 hb9 hc9
        go_wp2
        exact ⟨⟨k + 1, _, by omega, by go_num, hAF.out, h0F.out, h2F.out, bbF.out, bxF.out, brF.out, hwF.out⟩, by simp [intOf]; omega⟩
      · obtain rfl : k = n2 := by omega
        have g0 := bb_.c0; have g1 := bb_.c1; have g2 := bb_.c2
        have z0 := br_.c0; have z1 := br_.c1; have z2 := br_.c2; have v0 := br_.hot 0; have v1 := br_.hot 1; have v2 := br_.hot 2
        have hF := br_.set3 (.slice X0 k x0) (.slice Y1 k y1) (.slice X2 k x2)
        have hch := Chg.set3 wr (w.heap.size + 1) (.slice X0 k x0) (.slice Y1 k y1) (.slice X2 k x2)
        have R0 := hF.c0; have R1 := hF.c1; have R2 := hF.c2
        have hwF := hwr.trans (hch.below hwr.size (fun x hx => by have h3 : x = w.heap.size + 1 := hx; omega))
        have hAF := (hA.chgB7 br_ (by decide) (by decide) hch).reads
        have h0F := (ho0.chgBox br_ (by decide) hch).rv; have h2F := (ho2.chgBox br_ (by decide) hch).rv
        have HTK := Lib.hid (show g.2.1.take k = g.2.1 from List.take_of_length_le (by rw [HM.out]; exact Nat.le_refl _))
        have HAF := Lib.hid hAF
        clear hA ho0 ho2 hAF
        go_wp2
        exact bodyPost_ret (v := .tuple #[.agg #[.slice X0 k x0, .slice Y1 k y1, .slice X2 k x2], .bool true]) (by simp [results, Try.results71, go_sem, R0, R1, R2]) rfl ⟨_, _, _, rfl, ⟨⟨h0F, by rw [← HTK.out]; exact HAF.out.2⟩, h2F⟩, hwF.mono hB⟩

end Go.Proofs.Ytblmcmccdeelgaa
namespace Go.Proofs.Ytblmcmccdeelgaa
open Go.RowKit


set_option maxRecDepth 100000 in
set_option maxHeartbeats 1600000 in
theorem keepsWon (s0 s1 s2 : Value) (g : ParD) (C : Option Addr) (d : Nat) (w : World) (B : Nat) (hB : B ≤ w.heap.size) (hag : RPv w s0 s1 s2 g) (hp : RI w C g.1.length d (negL g.1.length)) (hpb : parB g = true) :
    Calls Try.prog 57 #[.agg #[s0, s1, s2], .slice C g.1.length d] w fun e w' => e = .returned (.bool true) ∧ Below B w w' := by
  have hf := finePar_of hpb
  obtain ⟨A0, n0, c0, A1, n1, c1, A2, n2, c2, rfl, rfl, rfl⟩ := hag.form
  have b1 := hag.ri.cap; have b2 := hag.ri.top; have b5 := hag.rii.cap; have b6 := hag.rii.top; have b7 := hag.rp.cap; have b8 := hag.rp.top
  have e0 : n2 = n0 := by rw [← hag.rp.len, ← hag.ri.len]; exact hf.2.1
  have e1 : n2 = n1 := by rw [← hag.rp.len, ← hag.rii.len, hf.2.1]; exact hf.1.2.2.1.symm
  subst e0; subst e1
  have HN := Lib.hid hag.ri.len
  have hnb : n2 ≤ 256 := by have := hf.1.2.1; rw [HN.out] at this; exact this
  have hna : 1 ≤ n2 := by have := hf.1.1; rw [HN.out] at this; exact this
  have HF := Lib.hid hf; have HPB := Lib.hid hpb
  have bx := Box.new w 34 #[.slice A0 n2 c0, .slice A1 n2 c1, .slice A2 n2 c2]
  have hwC : Below w.heap.size w (w.alloc (.cells #[.slice A0 n2 c0, .slice A1 n2 c1, .slice A2 n2 c2] 34)) := below_alloc (Nat.le_refl _) (Below.refl _ _)
  have q0 := bx.c0; have q1 := bx.c1; have q2 := bx.c2
  clear hf hpb
  go_enter Try.func57, Try.ntmps57
  go_wp2_with fail
  refine (onlyBy _ _ _ g _ _ _ _ (Nat.le_refl _) (hag.keep (keeps_below hwC)) (hp.keep (keeps_below hwC)) HPB.out).mono ?_; rintro e w1 ⟨t0, t1, t2, rfl, hx, hb1⟩
  obtain ⟨D0, m0, d0, D1, m1, d1, D2, m2, d2, rfl, rfl, rfl⟩ := hx.form
  have hw1 := below_then hb1 hwC.size hwC
  have bx1 := bx.on hb1
  clear q0 q1 q2 bx hwC
  go_wp2_with fail
  have hbA : Below w1.heap.size w1 (w1.alloc (.cells #[.slice D0 m0 d0, .slice D1 m1 d1, .slice D2 m2 d2] 34)).drew := Below.drew (below_alloc (Nat.le_refl _) (Below.refl _ _))
  have byC : Box (w1.alloc (.cells #[.slice D0 m0 d0, .slice D1 m1 d1, .slice D2 m2 d2] 34)).drew w1.heap.size 34 #[.slice D0 m0 d0, .slice D1 m1 d1, .slice D2 m2 d2] := Box.new _ _ _
  have hwX := hbA
  have bxC := bx1.on hbA
  have hwC := below_then hbA hw1.size hw1
  have q0 := bxC.c0; have q1 := bxC.c1; have q2 := bxC.c2; have p0 := byC.c0; have p1 := byC.c1; have p2 := byC.c2
  refine wp_region_held_drew (S := (fun w' => w'.cell? ⟨w.heap.size, 0, none⟩ = some (.slice A0 n2 c0) ∧ w'.cell? ⟨w.heap.size, 1, none⟩ = some (.slice A1 n2 c1) ∧ w'.cell? ⟨w.heap.size, 2, none⟩ = some (.slice A2 n2 c2) ∧ w'.cell? ⟨w1.heap.size, 0, none⟩ = some (.slice D0 m0 d0) ∧ w'.cell? ⟨w1.heap.size, 1, none⟩ = some (.slice D1 m1 d1) ∧ w'.cell? ⟨w1.heap.size, 2, none⟩ = some (.slice D2 m2 d2))) (by kernel_rfl) (⟨q0, q1, q2, p0, p1, p2⟩) (fun hHeld => ?_)
  clear hbA bx1 hb1
  generalize (w1.alloc (.cells #[.slice D0 m0 d0, .slice D1 m1 d1, .slice D2 m2 d2] 34)).drew = wD at *
  refine takeH0 (v := ?_) (by kernel_rfl) (by kernel_rfl) (by kernel_rfl) (fun _ _ _ h => h) hHeld (by rfl) ?_ ?_
  rotate_left; · (intro w hSw; (try dsimp only at hSw); go_simp; try with_reducible rfl)
  try simp only [Act.put, List.setIfInBounds_toArray, List.set_cons_zero, List.set_cons_succ]
  refine takeH1 (v := ?_) (by kernel_rfl) (by kernel_rfl) (by kernel_rfl) (fun _ _ _ h => h) hHeld (by rfl) ?_ ?_
  rotate_left; · (intro w hSw; (try dsimp only at hSw); go_simp; try with_reducible rfl)
  try simp only [Act.put, List.setIfInBounds_toArray, List.set_cons_zero, List.set_cons_succ]
  refine takeH2 (v := ?_) (by kernel_rfl) (by kernel_rfl) (by kernel_rfl) (fun _ _ _ h => h) hHeld (by rfl) ?_ ?_
  rotate_left; · (intro w hSw; (try dsimp only at hSw); go_simp; try with_reducible rfl)
  try simp only [Act.put, List.setIfInBounds_toArray, List.set_cons_zero, List.set_cons_succ]
  refine takeH4 (v := ?_) (by kernel_rfl) (by kernel_rfl) (by kernel_rfl) (fun _ _ _ h => h) hHeld (by rfl) ?_ ?_
  rotate_left; · (intro w hSw; (try dsimp only at hSw); go_simp; try with_reducible rfl)
  try simp only [Act.put, List.setIfInBounds_toArray, List.set_cons_zero, List.set_cons_succ]
  refine callH3 (by kernel_rfl) (fun K hK => ?_)
  go_simp
  go_at_call 58
  refine (l7Won _ _ _ g _ _ (Nat.le_refl _) (hx.keep (keeps_below hwX)) HF.out).mono ?_; rintro e w3 ⟨v3, rfl, ho3, hb3⟩
  have hwX3 := below_then hb3 hwX.size hwX
  obtain ⟨A3, c3, rfl⟩ := ho3.form
  replace hwC := below_then hb3 hwC.size hwC
  replace bxC := bxC.on hb3
  replace byC := byC.on hb3
  clear q0 q1 q2 p0 p1 p2
  have q0 := bxC.c0; have q1 := bxC.c1; have q2 := bxC.c2
  have p0 := byC.c0; have p1 := byC.c1; have p2 := byC.c2
  go_wp2_with fail
  refine hK.out _ _ (⟨q0, q1, q2, p0, p1, p2⟩) (fun hHeld => ?_)
  clear hK K
  try simp only [Act.put, List.setIfInBounds_toArray, List.set_cons_zero, List.set_cons_succ]
  refine callH5 (by kernel_rfl) (fun K hK => ?_)
  go_simp
  go_at_call 58
  refine (l7Won _ _ _ g _ _ (Nat.le_refl _) (hag.keep (keeps_below hwC)) HF.out).mono ?_; rintro e w5 ⟨v5, rfl, ho5, hb5⟩
  have ho35 := ho3.below hb5
  obtain ⟨A5, c5, rfl⟩ := ho5.form
  replace hwC := below_then hb5 hwC.size hwC
  replace bxC := bxC.on hb5
  replace byC := byC.on hb5
  clear q0 q1 q2 p0 p1 p2
  have q0 := bxC.c0; have q1 := bxC.c1; have q2 := bxC.c2
  have p0 := byC.c0; have p1 := byC.c1; have p2 := byC.c2
  go_wp2_with fail
  refine hK.out _ _ (⟨q0, q1, q2, p0, p1, p2⟩) (fun hHeld => ?_)
  clear hK K
  try simp only [Act.put, List.setIfInBounds_toArray, List.set_cons_zero, List.set_cons_succ]
  refine callH6 (by kernel_rfl) (fun K hK => ?_)
  go_simp
  go_at_call 72
  refine (l7Same _ _ _ _ _ _ (wonL g) (wonL g) _ ho35.reads ho5.reads).mono ?_; rintro e w6 ⟨rfl, hq6⟩
  rw [eqL_self]
  have hb6 := below_qt hq6 (Below.refl w5.heap.size w5)
  replace hwC := below_then hb6 hwC.size hwC
  replace bxC := bxC.on hb6
  replace byC := byC.on hb6
  clear q0 q1 q2 p0 p1 p2
  have q0 := bxC.c0; have q1 := bxC.c1; have q2 := bxC.c2
  have p0 := byC.c0; have p1 := byC.c1; have p2 := byC.c2
  go_wp2_with fail
  refine hK.out _ _ (⟨q0, q1, q2, p0, p1, p2⟩) (fun hHeld => ?_)
  clear hK K
  try simp only [Act.put, List.setIfInBounds_toArray, List.set_cons_zero, List.set_cons_succ]
  refine takeH7 (v := ?_) (by kernel_rfl) (by kernel_rfl) (by kernel_rfl) (fun _ _ _ h => h) hHeld (by rfl) ?_ ?_
  rotate_left; · (intro w hSw; (try dsimp only at hSw); go_simp; try with_reducible rfl)
  try simp only [Act.put, List.setIfInBounds_toArray, List.set_cons_zero, List.set_cons_succ]
  refine takeH8 (v := ?_) (by kernel_rfl) (by kernel_rfl) (by kernel_rfl) (fun _ _ _ h => h) hHeld (by rfl) ?_ ?_
  rotate_left; · (intro w hSw; (try dsimp only at hSw); go_simp; try with_reducible rfl)
  try simp only [Act.put, List.setIfInBounds_toArray, List.set_cons_zero, List.set_cons_succ]
  refine wpAnyH_done (by kernel_rfl) ?_ _
  go_wp2
  go_ret
  exact ⟨rfl, hwC.mono hB⟩


theorem neg_set {N k : Nat} (h : k < N) : (negL N).set k (-1) = negL N := gi_ext (by simp [negL, fill_len]) fun j hj => by
  rw [List.length_set] at hj
  have hj2 : j < N := by unfold negL at hj; rwa [fill_len] at hj
  rw [gi_set (by unfold negL; rw [fill_len]; exact h), gi_neg hj2]
  split <;> rfl
/-- what PlanFrom leaves: who wins, and some plan within the game -/
def SolTo (w : World) (B : Nat) (g : ParD) (f : Value → Value → Ending) (e : Ending) (w' : World) : Prop :=
  ∃ (v0 v1 : Value) (plan : List Int), e = f v0 v1 ∧ OI 2 w' B v0 (wonL g) ∧ OI 2 w' B v1 plan ∧ (plan.length = g.1.length ∧ ∀ v, v < g.1.length → -1 ≤ gi plan v ∧ gi plan v < g.1.length) ∧ Below B w w'

end Go.Proofs.Ytblmcmccdeelgaa
namespace Go.Proofs.Ytblmcmccdeelgaa
open Go.RowKit

set_option maxRecDepth 100000 in
set_option maxHeartbeats 6400000 in
theorem planFrom (s0 s1 s2 : Value) (g : ParD) (C : Option Addr) (d : Nat) (w : World) (B : Nat) (hB : B ≤ w.heap.size) (hag : RPv w s0 s1 s2 g) (hp : RI w C g.1.length d (negL g.1.length)) (hpb : parB g = true) :
    Calls Try.prog 35 #[.agg #[s0, s1, s2], .slice C g.1.length d] w (SolTo w B g fun v0 v1 => .returned (.tuple #[.agg #[v0, v1], .bool true])) := by
  have hf := finePar_of hpb
  obtain ⟨A0, n0, c0, A1, n1, c1, A2, n2, c2, rfl, rfl, rfl⟩ := hag.form
  have b1 := hag.ri.cap; have b2 := hag.ri.top; have b5 := hag.rii.cap; have b6 := hag.rii.top; have b7 := hag.rp.cap; have b8 := hag.rp.top
  have e0 : n2 = n0 := by rw [← hag.rp.len, ← hag.ri.len]; exact hf.2.1
  have e1 : n2 = n1 := by rw [← hag.rp.len, ← hag.rii.len, hf.2.1]; exact hf.1.2.2.1.symm
  subst e0; subst e1
  have HN := Lib.hid hag.ri.len
  have hnb : n2 ≤ 256 := by have := hf.1.2.1; rw [HN.out] at this; exact this
  have hna : 1 ≤ n2 := by have := hf.1.1; rw [HN.out] at this; exact this
  have HF := Lib.hid hf; have HPB := Lib.hid hpb
  have hp0 := hp
  have b3 := hp.cap; have b4 := hp.top
  rw [HN.out] at hp b3 ⊢
  have hba : Below w.heap.size w ((w.alloc (.cells #[.slice A0 n2 c0, .slice A1 n2 c1, .slice A2 n2 c2] 34)).alloc (.cells #[.slice none 0 0, .slice none 0 0] 44)) := below_alloc (Nat.le_refl _) (below_alloc (Nat.le_refl _) (Below.refl _ _))
  have bxL := (Box.new w 34 #[.slice A0 n2 c0, .slice A1 n2 c1, .slice A2 n2 c2]).alloc (.cells #[.slice none 0 0, .slice none 0 0] 44)
  have brL : Box ((w.alloc (.cells #[.slice A0 n2 c0, .slice A1 n2 c1, .slice A2 n2 c2] 34)).alloc (.cells #[.slice none 0 0, .slice none 0 0] 44)) (w.heap.size + 1) 44 #[.slice none 0 0, .slice none 0 0] := Box.new' (by simp)
  have q0 := bxL.c0; have q1 := bxL.c1; have q2 := bxL.c2
  have HK := Lib.hid (show ∀ w', Below w.heap.size w w' → Calls Try.prog 57 #[.agg #[.slice A0 n2 c0, .slice A1 n2 c1, .slice A2 n2 c2], .slice C n2 d] w' fun e w'' => e = .returned (.bool true) ∧ Below w'.heap.size w' w'' from fun w' hb => by
    have h := keepsWon _ _ _ g C d w' _ (Nat.le_refl _) (hag.keep (keeps_below hb)) (hp0.keep (keeps_below hb)) HPB.out
    rw [HN.out] at h
    exact h)
  have HF7 := Lib.hid (show ∀ c : List Int, c.length = n2 → fine7 (withC (sOf g (negL n2)) c) n2 from fun c hc => by have := fine_sOf hf (c := c) (by rw [HN.out]; exact hc); rw [HN.out] at this; exact this)
  clear hf hpb hp0
  go_enter Try.func35, Try.ntmps35
  go_wp2_with fail
  refine (HK.out _ hba).mono ?_; rintro e w1 ⟨rfl, hb1⟩
  have hw1 := below_then hb1 hba.size hba
  have bx1 := bxL.on hb1; have br1 := brL.on hb1
  clear q0 q1 q2 hba bxL brL hb1
  have q0 := bx1.c0; have q1 := bx1.c1; have q2 := bx1.c2
  go_wp2_with fail
  refine (l7Won _ _ _ g _ _ (Nat.le_refl _) (hag.keep (keeps_below hw1)) HF.out).mono ?_; rintro e w2 ⟨vW, rfl, hoW, hb2⟩
  have hw2 := below_then hb2 hw1.size hw1
  have bx2 := bx1.on hb2; have br2 := br1.on hb2
  obtain ⟨AW, cW, hve⟩ := hoW.form
  rw [wonL_len, HN.out] at hve
  subst hve
  have hl1 : w.heap.size + 2 ≤ w1.heap.size := br1.lt
  clear q0 q1 q2 hw1 bx1 br1
  have q0 := bx2.c0; have q1 := bx2.c1; have q2 := bx2.c2
  go_wp2_with fail
  refine (l7Of _ _ _ g _ _ (Nat.le_refl _) (hag.keep (keeps_below hw2)) HF.out).mono ?_; rintro e w3 ⟨s3, bk, rfl, hpk, hbk, hKp, hb3⟩
  rw [HN.out] at hpk hKp ⊢
  obtain ⟨A3, n3, c3, rfl, _⟩ := hKp w3 (Chg.refl _ _)
  have hw3 := below_then hb3 hw2.size hw2
  have h2k : w2.heap.size ≤ bk := hbk
  have h02 : w.heap.size + 2 ≤ w2.heap.size := br2.lt
  have bx3 := bx2.on hb3; have br3 := br2.on hb3
  have hkl : bk < w3.heap.size := (hpk.lt _ rfl).2
  have hbA : Below w3.heap.size w3 (w3.alloc (.cells #[.slice A0 n2 c0, .slice A2 n2 c2, .slice A1 n2 c1, .slice A3 n3 c3, .slice (some ⟨bk, 0, none⟩) n2 n2] 76)) := below_alloc (Nat.le_refl _) (Below.refl _ _)
  have hoW4 := (hoW.below hb3).below hbA
  have hpk4 := hpk.below hbA
  have bx4 := bx3.on hbA; have br4 := br3.on hbA
  have b74 : Box (w3.alloc (.cells #[.slice A0 n2 c0, .slice A2 n2 c2, .slice A1 n2 c1, .slice A3 n3 c3, .slice (some ⟨bk, 0, none⟩) n2 n2] 76)) w3.heap.size 76 #[.slice A0 n2 c0, .slice A2 n2 c2, .slice A1 n2 c1, .slice A3 n3 c3, .slice (some ⟨bk, 0, none⟩) n2 n2] := Box.new _ _ _
  have hw4 := below_then hbA hw3.size hw3
  have hR4 : Rest7 (w3.alloc (.cells #[.slice A0 n2 c0, .slice A2 n2 c2, .slice A1 n2 c1, .slice A3 n3 c3, .slice (some ⟨bk, 0, none⟩) n2 n2] 76)) bk (.slice A0 n2 c0) (.slice A2 n2 c2) (.slice A1 n2 c1) (.slice A3 n3 c3) (sOf g (negL n2)) := fun w' hc => by
    have hb : Below w.heap.size w w' := hw4.trans (hc.below hw4.size (fun x hx => by have h3 : x = bk := hx; have := hw2.size; omega))
    have h := hag.keep (keeps_below hb)
    have h4 := hKp w' ((chgB hbA).trans hc (U := fun b => b = bk) (fun _ h => h) (fun _ h => h))
    exact ⟨h.1.1, h.2, h.1.2, by show RIIv w' (.slice A3 n3 c3) (prevR g.2.1 g.1.length); rw [HN.out]; exact h4⟩
  have HR4 := Lib.hid hR4
  have hWlt : ∀ b, (Value.slice AW n2 cW).ownBlock = some b → b < w2.heap.size := fun b hb => (hoW.lt b hb).2
  clear q0 q1 q2 hR4 hKp hpk hoW bx3 br3 bx2 br2 hb3 hb2
  go_wp2
  generalize w3.alloc (.cells #[.slice A0 n2 c0, .slice A2 n2 c2, .slice A1 n2 c1, .slice A3 n3 c3, .slice (some ⟨bk, 0, none⟩) n2 n2] 76) = w4 at *
  have hs34 := hbA.size
  go_loopw [8] (fun i wr => ∃ k : Nat, k ≤ n2 ∧ i = .int .i64 k ∧ OI 2 wr w2.heap.size (.slice (some ⟨bk, 0, none⟩) n2 n2) (negL n2) ∧ Chg (fun b => b = bk) w4 wr) (fun i _ => n2 - (intOf i).toNat)
  case atStart => exact ⟨0, Nat.zero_le _, rfl, hpk4, Chg.refl _ _⟩
  case round =>
    clear hpk4
    obtain ⟨k, hk, rfl, hpk, hC⟩ := hrel
    have bx7 : Box wr w3.heap.size 76 #[.slice A0 n2 c0, .slice A2 n2 c2, .slice A1 n2 c1, .slice A3 n3 c3, .slice (some ⟨bk, 0, none⟩) n2 n2] := (hC.block _ b74.lt (fun e => by have h3 : w3.heap.size = bk := e; omega)).trans b74
    have bxr : Box wr w.heap.size 34 #[.slice A0 n2 c0, .slice A1 n2 c1, .slice A2 n2 c2] := (hC.block _ bx4.lt (fun e => by have h3 : w.heap.size = bk := e; have := hw2.size; omega)).trans bx4
    have hwr : Below w.heap.size w wr := hw4.trans (hC.below hw4.size (fun x hx => by have h3 : x = bk := hx; have := hw2.size; omega))
    by_cases hlt : k < n2
    · obtain ⟨bc, oc, rfl, hcc⟩ := hp.at_ hlt
      rw [gi_neg hlt] at hcc
      have kc := below_cell hwr hcc
      have lbc := cell_lt hcc
      have hki : (k : Int) < (n2 : Int) := by omega
      have hk0 : (0 : Int) ≤ (k : Int) := by omega
      have hcm := hpk.cellAt (i := k) (by unfold negL; rw [fill_len]; exact hlt)
      have hfz := hpk.hot (i := k) (by unfold negL; rw [fill_len])
      have nek : ¬ bk = bc := by have := hw2.size; omega
      have HNS := Lib.hid (neg_set hlt)
      have HPK := Lib.hid (hpk.set_ (i := k) (by unfold negL; rw [fill_len]) (-1))
      go_wp2_with fail
      go_quiet (fail)
      replace hC : Chg (fun b => b = bk) w4 (wr.drewN nq) := hC.drewN nq
      have HPQ : Hid (OI 2 (wr.drewN nq) w2.heap.size (.slice (some ⟨bk, 0, none⟩) n2 n2) (negL n2)) := Lib.hid hpk
      clear hpk HPK
      go_wp2_with fail
      have bx7D : Box (wr.drewN nq).drew w3.heap.size 76 #[.slice A0 n2 c0, .slice A2 n2 c2, .slice A1 n2 c1, .slice A3 n3 c3, .slice (some ⟨bk, 0, none⟩) n2 n2] := bx7
      have hCD : Chg (fun b => b = bk) w4 (wr.drewN nq).drew := hC.drewN 1
      have HPD : Hid (OI 2 (wr.drewN nq).drew w2.heap.size (.slice (some ⟨bk, 0, none⟩) n2 n2) (negL n2)) := Lib.hid HPQ.out
      have e4 := Box.e4 (w := (wr.drewN nq).drew) (t := 76) bx7D
      replace kc : (wr.drewN nq).drew.cell? ⟨bc, oc + k, none⟩ = some (.int .i64 (-1)) := kc
      replace hcm : (wr.drewN nq).drew.cell? _ = _ := hcm
      replace hfz : (wr.drewN nq).drew.frozen? _ = _ := hfz
      clear bx7 bxr hwr hC HPQ
      refine wp_region_held_drew (S := (fun w' => w'.cell? ⟨w3.heap.size, 4, none⟩ = some (.slice (some ⟨bk, 0, none⟩) n2 n2) ∧ w'.cell? ⟨bc, oc + k, none⟩ = some (.int .i64 (-1)))) (by kernel_rfl) (⟨e4, kc⟩) (fun hHeld => ?_)
      generalize (wr.drewN nq).drew = wD at *
      refine takeH0 (v := ?_) (by kernel_rfl) (by kernel_rfl) (by kernel_rfl) (fun _ _ _ h => h) hHeld (by rfl) ?_ ?_
      rotate_left; · (intro w hSw; (try dsimp only at hSw); go_simp; try with_reducible rfl)
      try simp only [Act.put, List.setIfInBounds_toArray, List.set_cons_zero, List.set_cons_succ]
      refine takeH1 (v := ?_) (by kernel_rfl) (by kernel_rfl) (by kernel_rfl) (fun _ _ _ h => h) hHeld (by rfl) ?_ ?_
      rotate_left; · (intro w hSw; (try dsimp only at hSw); go_simp; try with_reducible rfl)
      try simp only [Act.put, List.setIfInBounds_toArray, List.set_cons_zero, List.set_cons_succ]
      refine takeH2 (v := ?_) (by kernel_rfl) (by kernel_rfl) (by kernel_rfl) (fun _ _ _ h => h) hHeld (by rfl) ?_ ?_
      rotate_left; · (intro w hSw; (try dsimp only at hSw); go_simp; try with_reducible rfl)
      try simp only [Act.put, List.setIfInBounds_toArray, List.set_cons_zero, List.set_cons_succ]
      refine takeH3 (v := ?_) (by kernel_rfl) (by kernel_rfl) (by kernel_rfl) (fun _ _ _ h => h) hHeld (by rfl) ?_ ?_
      rotate_left; · (intro w hSw; (try dsimp only at hSw); go_simp; try with_reducible rfl)
      try simp only [Act.put, List.setIfInBounds_toArray, List.set_cons_zero, List.set_cons_succ]
      refine takeH4 (v := ?_) (by kernel_rfl) (by kernel_rfl) (by kernel_rfl) (fun _ _ _ h => h) hHeld (by rfl) ?_ ?_
      rotate_left; · (intro w hSw; (try dsimp only at hSw); go_simp; try with_reducible rfl)
      try simp only [Act.put, List.setIfInBounds_toArray, List.set_cons_zero, List.set_cons_succ]
      refine takeH5 (v := ?_) (by kernel_rfl) (by kernel_rfl) (by kernel_rfl) (fun _ _ _ h => h) hHeld (by rfl) ?_ ?_
      rotate_left; · (intro w hSw; (try dsimp only at hSw); go_simp; try with_reducible rfl)
      try simp only [Act.put, List.setIfInBounds_toArray, List.set_cons_zero, List.set_cons_succ]
      refine takeH6 (v := ?_) (by kernel_rfl) (by kernel_rfl) (by kernel_rfl) (fun _ _ _ h => h) hHeld (by rfl) ?_ ?_
      rotate_left; · (intro w hSw; (try dsimp only at hSw); go_simp; try with_reducible rfl)
      try simp only [Act.put, List.setIfInBounds_toArray, List.set_cons_zero, List.set_cons_succ]
      refine takeH7 (v := ?_) (by kernel_rfl) (by kernel_rfl) (by kernel_rfl) (fun _ _ _ h => h) hHeld (by rfl) ?_ ?_
      rotate_left; · (intro w hSw; (try dsimp only at hSw); go_simp; try with_reducible rfl)
      try simp only [Act.put, List.setIfInBounds_toArray, List.set_cons_zero, List.set_cons_succ]
      refine callH8 (by kernel_rfl) (fun K hK => ?_)
      have chS : Chg (fun b => b = bk) wD (wD.setCell ⟨bk, k, none⟩ (.int .i64 (-1))) := Chg.set ⟨bk, k, none⟩ (.int .i64 (-1))
      have hCN := hCD.trans chS (U := fun b => b = bk) (fun _ h => h) (fun _ h => h)
      have bx7N := (chS.block _ bx7D.lt (fun e => by have h3 : w3.heap.size = bk := e; omega)).trans bx7D
      have e4N : (wD.setCell ⟨bk, k, none⟩ (.int .i64 (-1))).cell? ⟨w3.heap.size, 4, none⟩ = some (.slice (some ⟨bk, 0, none⟩) n2 n2) := Box.e4 (w := (wD.setCell ⟨bk, k, none⟩ (.int .i64 (-1)))) (t := 76) bx7N
      have kcN : (wD.setCell ⟨bk, k, none⟩ (.int .i64 (-1))).cell? ⟨bc, oc + k, none⟩ = some (.int .i64 (-1)) := by rw [World.cell?_setCell_other]; (· exact kc); (· exact fun h => by injection h with h1; first | exact nek h1 | exact nek h1.symm)
      go_simp
      refine hK.out _ _ (⟨e4N, kcN⟩) (fun hHeld => ?_)
      clear hK K
      try simp only [Act.put, List.setIfInBounds_toArray, List.set_cons_zero, List.set_cons_succ]
      refine wpAnyH_done (by kernel_rfl) ?_ _
      have HPN := Lib.hid (show OI 2 (wD.setCell ⟨bk, k, none⟩ (.int .i64 (-1))) w2.heap.size (.slice (some ⟨bk, 0, none⟩) n2 n2) (negL n2) by have h := HPD.out.set_ (i := k) (by unfold negL; rw [fill_len]) (-1); rw [HNS.out] at h; exact h)
      go_wp2
      exact ⟨⟨k + 1, by omega, by go_num, HPN.out, hCN⟩, by simp [intOf]; omega⟩
    · obtain rfl : k = n2 := by omega
      obtain ⟨n2, rfl⟩ : ∃ n2 : Nat, n2 = k := ⟨_, rfl⟩
      have hoWr := hoW4.chg hC (fun b hb e => by have h3 : b = bk := e; have := hWlt b hb; omega)
      have brr : Box wr (w.heap.size + 1) 44 #[.slice none 0 0, .slice none 0 0] := (hC.block _ br4.lt (fun e => by have h3 : w.heap.size + 1 = bk := e; have := hw2.size; omega)).trans br4
      have hCs := hC.size
      generalize wr = w5 at *
      go_wp2_with fail
      refine (l7Region _ _ _ (wonL g) 0 _ _ (Nat.le_refl _) hoWr.reads hnb).mono ?_; rintro e w6 ⟨vE, rfl, hoE, hb6⟩
      obtain ⟨AE, cE, hve⟩ := hoE.form
      rw [fillB_len] at hve
      subst hve
      have hoW6 := hoWr.below hb6
      go_wp2_with fail
      refine (l7Region _ _ _ (wonL g) 1 _ _ (Nat.le_refl _) hoW6.reads hnb).mono ?_; rintro e w7 ⟨vO, rfl, hoO, hb7⟩
      obtain ⟨AO, cO, hve⟩ := hoO.form
      rw [fillB_len] at hve
      subst hve
      have hC7 : Chg (fun b => b = bk) w4 w7 := (hC.trans (chgB hb6) (U := fun b => b = bk) (fun _ h => h) (fun _ h => h)).trans (chgB hb7) (U := fun b => b = bk) (fun _ h => h) (fun _ h => h)
      have hR7 := HR4.out.chg hC7
      have hoW7 := hoW6.below hb7
      have hoE7 := hoE.below hb7
      have hpk7 := (hpk.below hb6).below hb7
      have hs6 := hb6.size; have hs7 := hb7.size
      have b77 := (bx7.on hb6).on hb7; have bx77 := (bxr.on hb6).on hb7; have br77 := (brr.on hb6).on hb7
      have hw7 := below_then hb7 (below_then hb6 hwr.size hwr).size (below_then hb6 hwr.size hwr)
      have HEr := Lib.hid (show ∀ w1, Chg (fun b => b = bk) w7 w1 → ∀ w', Chg (fun b => b = bk) w1 w' → RB w' AE n2 cE (fillB (fun v => gi (wonL g) v == 0) n2 n2) from fun w1 h1 w' h2 => OB.reads (hoE7.chg (h1.trans h2 (U := fun b => b = bk) (fun _ h => h) (fun _ h => h)) (fun b hb e => by have h3 : b = bk := e; have := (hoE.lt b hb).1; omega)))
      have HOr := Lib.hid (show ∀ w1, Chg (fun b => b = bk) w7 w1 → ∀ w', Chg (fun b => b = bk) w1 w' → RB w' AO n2 cO (fillB (fun v => gi (wonL g) v == 1) n2 n2) from fun w1 h1 w' h2 => OB.reads (hoO.chg (h1.trans h2 (U := fun b => b = bk) (fun _ h => h) (fun _ h => h)) (fun b hb e => by have h3 : b = bk := e; have := (hoO.lt b hb).1; omega)))
      have HR := Lib.hid hR7
      obtain ⟨B7, hB7⟩ : ∃ B7, B7 = w2.heap.size := ⟨_, rfl⟩
      rw [← hB7] at hpk7
      have hB7b : B7 ≤ bk := by omega
      have hb7w : w.heap.size ≤ B7 := by have := hw2.size; omega
      have hB71 : w.heap.size + 2 ≤ B7 := by have := hw2.size; omega
      clear hB7 hR7 hC hC7 hoE hoE7 hoO hpk bx7 bxr brr hoWr hoW6 hb6 hb7 HR4 hoW4 bx4 br4 b74 hbA hwr hw4
      have hrc : (negL n2).length = n2 ∧ ∀ x, x < n2 → -1 ≤ gi (negL n2) x ∧ gi (negL n2) x < n2 := ⟨fill_len _ _, fun x hx => by rw [gi_neg hx]; omega⟩
      have HRC0 := Lib.hid hrc
      clear hrc
      have wc_ := hoW7.reads.cap; have wt_ := hoW7.reads.top
      go_wp2
      go_loopw [11] (fun i wr => ∃ (k : Nat) (c : List Int), k ≤ n2 ∧ i = .int .i64 k ∧ OI 2 wr B7 (.slice (some ⟨bk, 0, none⟩) n2 n2) c ∧ Hid (c.length = n2 ∧ ∀ x, x < n2 → -1 ≤ gi c x ∧ gi c x < n2) ∧ Chg (fun b => b = bk) w7 wr) (fun i _ => n2 - (intOf i).toNat)
      case atStart => exact ⟨0, negL n2, Nat.zero_le _, rfl, hpk7, HRC0, Chg.refl _ _⟩
      case round =>
        clear hpk7 HRC0
        obtain ⟨k, c, hk, rfl, hpk, HRC, hC⟩ := hrel
        have bx7 : Box wr w3.heap.size 76 #[.slice A0 n2 c0, .slice A2 n2 c2, .slice A1 n2 c1, .slice A3 n3 c3, .slice (some ⟨bk, 0, none⟩) n2 n2] := (hC.block _ b77.lt (fun e => by have h3 : w3.heap.size = bk := e; omega)).trans b77
        have bxr : Box wr w.heap.size 34 #[.slice A0 n2 c0, .slice A1 n2 c1, .slice A2 n2 c2] := (hC.block _ bx77.lt (fun e => by have h3 : w.heap.size = bk := e; omega)).trans bx77
        have hwr : Below w.heap.size w wr := hw7.trans (hC.below hw7.size (fun x hx => by have h3 : x = bk := hx; omega))
        have hoWr := hoW7.chg hC (fun b hb e => by have h3 : b = bk := e; have := hWlt b hb; omega)
        by_cases hlt : k < n2
        · obtain ⟨bw, ow, e_, kw⟩ := hoWr.reads.at_ hlt
          subst e_
          obtain ⟨bo, oo, e_, kO⟩ := hag.ri.at_ hlt
          subst e_
          have ko := below_cell hwr kO
          have kp := hpk.cellAt (i := k) (by rw [HRC.out.1]; exact hlt)
          have e4 := Box.e4 (w := wr) (t := 76) bx7
          have q0 := bxr.c0
          have hki : (k : Int) < (n2 : Int) := by omega
          have hk0 : (0 : Int) ≤ (k : Int) := by omega
          clear bxr hwr hoWr
          by_cases hge : 0 ≤ gi c k
          · have hd : decide (0 ≤ gi c k) = true := decide_eq_true hge
            go_wp2_with fail
            go_quiet (fail)
            go_wp2
            exact ⟨⟨k + 1, c, by omega, by go_num, hpk, HRC, hC.drewN _⟩, by simp [intOf]; omega⟩
          · have hd : decide (0 ≤ gi c k) = false := decide_eq_false hge
            cases hne : (gi (wonL g) k != gi g.1 k) with
            | true =>
              go_wp2_with fail
              go_quiet (fail)
              go_wp2
              exact ⟨⟨k + 1, c, by omega, by go_num, hpk, HRC, hC.drewN _⟩, by simp [intOf]; omega⟩
            | false =>
              cases hone : (gi (wonL g) k == 1) with
              | true =>
                go_wp2_with fail
                go_quiet (fail)
                replace hC : Chg (fun b => b = bk) w7 (wr.drewN nq) := hC.drewN nq
                replace bx7 : Box (wr.drewN nq) w3.heap.size 76 #[.slice (some ⟨bo, oo, none⟩) n2 c0, .slice A2 n2 c2, .slice A1 n2 c1, .slice A3 n3 c3, .slice (some ⟨bk, 0, none⟩) n2 n2] := bx7
                replace hpk : OI 2 (wr.drewN nq) B7 (.slice (some ⟨bk, 0, none⟩) n2 n2) c := hpk
                go_wp2_with fail
                generalize wr.drewN nq = wq at *
                have hCD : Chg (fun b => b = bk) w7 wq.drew := hC.drewN 1
                have bx7D : Box wq.drew w3.heap.size 76 #[.slice (some ⟨bo, oo, none⟩) n2 c0, .slice A2 n2 c2, .slice A1 n2 c1, .slice A3 n3 c3, .slice (some ⟨bk, 0, none⟩) n2 n2] := bx7
                have hpD : OI 2 wq.drew B7 (.slice (some ⟨bk, 0, none⟩) n2 n2) c := hpk
                clear bx7 hpk hC e4 q0 kw ko kp
                have e0 := Box.e0 (w := wq.drew) (t := 76) bx7D; have e1 := Box.e1 (w := wq.drew) (t := 76) bx7D; have e2 := Box.e2 (w := wq.drew) (t := 76) bx7D; have e3 := Box.e3 (w := wq.drew) (t := 76) bx7D; have e4 := Box.e4 (w := wq.drew) (t := 76) bx7D
                refine wp_region_held_drew (S := (fun w' => w'.cell? ⟨w3.heap.size, 0, none⟩ = some (.slice (some ⟨bo, oo, none⟩) n2 c0) ∧ w'.cell? ⟨w3.heap.size, 1, none⟩ = some (.slice A2 n2 c2) ∧ w'.cell? ⟨w3.heap.size, 2, none⟩ = some (.slice A1 n2 c1) ∧ w'.cell? ⟨w3.heap.size, 3, none⟩ = some (.slice A3 n3 c3) ∧ w'.cell? ⟨w3.heap.size, 4, none⟩ = some (.slice (some ⟨bk, 0, none⟩) n2 n2))) (by kernel_rfl) (⟨e0, e1, e2, e3, e4⟩) (fun hHeld => ?_)
                generalize wq.drew = wD at *
                refine takeH0 (v := ?_) (by kernel_rfl) (by kernel_rfl) (by kernel_rfl) (fun _ _ _ h => h) hHeld (by rfl) ?_ ?_
                rotate_left; · (intro w hSw; (try dsimp only at hSw); go_simp; try with_reducible rfl)
                try simp only [Act.put, List.setIfInBounds_toArray, List.set_cons_zero, List.set_cons_succ]
                refine takeH1 (v := ?_) (by kernel_rfl) (by kernel_rfl) (by kernel_rfl) (fun _ _ _ h => h) hHeld (by rfl) ?_ ?_
                rotate_left; · (intro w hSw; (try dsimp only at hSw); go_simp; try with_reducible rfl)
                try simp only [Act.put, List.setIfInBounds_toArray, List.set_cons_zero, List.set_cons_succ]
                refine takeH2 (v := ?_) (by kernel_rfl) (by kernel_rfl) (by kernel_rfl) (fun _ _ _ h => h) hHeld (by rfl) ?_ ?_
                rotate_left; · (intro w hSw; (try dsimp only at hSw); go_simp; try with_reducible rfl)
                try simp only [Act.put, List.setIfInBounds_toArray, List.set_cons_zero, List.set_cons_succ]
                refine takeH3 (v := ?_) (by kernel_rfl) (by kernel_rfl) (by kernel_rfl) (fun _ _ _ h => h) hHeld (by rfl) ?_ ?_
                rotate_left; · (intro w hSw; (try dsimp only at hSw); go_simp; try with_reducible rfl)
                try simp only [Act.put, List.setIfInBounds_toArray, List.set_cons_zero, List.set_cons_succ]
                refine takeH4 (v := ?_) (by kernel_rfl) (by kernel_rfl) (by kernel_rfl) (fun _ _ _ h => h) hHeld (by rfl) ?_ ?_
                rotate_left; · (intro w hSw; (try dsimp only at hSw); go_simp; try with_reducible rfl)
                try simp only [Act.put, List.setIfInBounds_toArray, List.set_cons_zero, List.set_cons_succ]
                refine takeH5 (v := ?_) (by kernel_rfl) (by kernel_rfl) (by kernel_rfl) (fun _ _ _ h => h) hHeld (by rfl) ?_ ?_
                rotate_left; · (intro w hSw; (try dsimp only at hSw); go_simp; try with_reducible rfl)
                try simp only [Act.put, List.setIfInBounds_toArray, List.set_cons_zero, List.set_cons_succ]
                refine callH6 (by kernel_rfl) (fun K hK => ?_)
                go_simp
                go_at_call 61
                refine (l7Pick _ _ _ _ bk n2 n2 k _ (sOf g (negL n2)) c _ _ _ _ (HR.out.chg hCD) hpD HRC.out (HOr.out _ hCD) (HF7.out c HRC.out.1) hlt).mono ?_; rintro e w20 ⟨x, c_, rfl, hx, hp20, hc20, hch20⟩
                have hCE := hCD.trans hch20 (U := fun b => b = bk) (fun _ h => h) (fun _ h => h)
                have bx7E : Box w20 w3.heap.size 76 #[.slice (some ⟨bo, oo, none⟩) n2 c0, .slice A2 n2 c2, .slice A1 n2 c1, .slice A3 n3 c3, .slice (some ⟨bk, 0, none⟩) n2 n2] := (hch20.block _ bx7D.lt (fun e => by have h3 : w3.heap.size = bk := e; omega)).trans bx7D
                have HX := Lib.hid hx; have HC20 := Lib.hid hc20
                have hcm := hp20.cellAt (i := k) (by rw [HC20.out.1]; exact hlt)
                have hfz := hp20.hot (i := k) (by rw [HC20.out.1])
                clear e0 e1 e2 e3 e4 hx hc20 hpD bx7D hCD hch20
                have e0 := Box.e0 (w := w20) (t := 76) bx7E; have e1 := Box.e1 (w := w20) (t := 76) bx7E; have e2 := Box.e2 (w := w20) (t := 76) bx7E; have e3 := Box.e3 (w := w20) (t := 76) bx7E; have e4 := Box.e4 (w := w20) (t := 76) bx7E
                go_wp2_with fail
                refine hK.out _ _ (⟨e0, e1, e2, e3, e4⟩) (fun hHeld => ?_)
                clear hK K
                try simp only [Act.put, List.setIfInBounds_toArray, List.set_cons_zero, List.set_cons_succ]
                refine takeH7 (v := ?_) (by kernel_rfl) (by kernel_rfl) (by kernel_rfl) (fun _ _ _ h => h) hHeld (by rfl) ?_ ?_
                rotate_left; · (intro w hSw; (try dsimp only at hSw); go_simp; try with_reducible rfl)
                try simp only [Act.put, List.setIfInBounds_toArray, List.set_cons_zero, List.set_cons_succ]
                refine callH8 (by kernel_rfl) (fun K hK => ?_)
                have chS : Chg (fun b => b = bk) w20 (w20.setCell ⟨bk, k, none⟩ (.int .i64 x)) := Chg.set ⟨bk, k, none⟩ (.int .i64 x)
                have hCN := hCE.trans chS (U := fun b => b = bk) (fun _ h => h) (fun _ h => h)
                have bx7N := (chS.block _ bx7E.lt (fun e => by have h3 : w3.heap.size = bk := e; omega)).trans bx7E
                have hpN := hp20.set_ (i := k) (by rw [HC20.out.1]) x
                have HCN := Lib.hid (set_range HC20.out hlt HX.out)
                have e0N : (w20.setCell ⟨bk, k, none⟩ (.int .i64 x)).cell? ⟨w3.heap.size, 0, none⟩ = some _ := Box.e0 (w := (w20.setCell ⟨bk, k, none⟩ (.int .i64 x))) (t := 76) bx7N
                have e1N : (w20.setCell ⟨bk, k, none⟩ (.int .i64 x)).cell? ⟨w3.heap.size, 1, none⟩ = some _ := Box.e1 (w := (w20.setCell ⟨bk, k, none⟩ (.int .i64 x))) (t := 76) bx7N
                have e2N : (w20.setCell ⟨bk, k, none⟩ (.int .i64 x)).cell? ⟨w3.heap.size, 2, none⟩ = some _ := Box.e2 (w := (w20.setCell ⟨bk, k, none⟩ (.int .i64 x))) (t := 76) bx7N
                have e3N : (w20.setCell ⟨bk, k, none⟩ (.int .i64 x)).cell? ⟨w3.heap.size, 3, none⟩ = some _ := Box.e3 (w := (w20.setCell ⟨bk, k, none⟩ (.int .i64 x))) (t := 76) bx7N
                have e4N : (w20.setCell ⟨bk, k, none⟩ (.int .i64 x)).cell? ⟨w3.heap.size, 4, none⟩ = some _ := Box.e4 (w := (w20.setCell ⟨bk, k, none⟩ (.int .i64 x))) (t := 76) bx7N
                go_simp
                refine hK.out _ _ (⟨e0N, e1N, e2N, e3N, e4N⟩) (fun hHeld => ?_)
                clear hK K
                try simp only [Act.put, List.setIfInBounds_toArray, List.set_cons_zero, List.set_cons_succ]
                refine wpAnyH_done (by kernel_rfl) ?_ _
                have HPN := Lib.hid hpN
                clear hpN
                go_wp2
                exact ⟨⟨k + 1, _, by omega, by go_num, HPN.out, HCN, hCN⟩, by simp [intOf]; omega⟩
              | false =>
                go_wp2_with fail
                go_quiet (fail)
                replace hC : Chg (fun b => b = bk) w7 (wr.drewN nq) := hC.drewN nq
                replace bx7 : Box (wr.drewN nq) w3.heap.size 76 #[.slice (some ⟨bo, oo, none⟩) n2 c0, .slice A2 n2 c2, .slice A1 n2 c1, .slice A3 n3 c3, .slice (some ⟨bk, 0, none⟩) n2 n2] := bx7
                replace hpk : OI 2 (wr.drewN nq) B7 (.slice (some ⟨bk, 0, none⟩) n2 n2) c := hpk
                go_wp2_with fail
                generalize wr.drewN nq = wq at *
                have hCD : Chg (fun b => b = bk) w7 wq.drew := hC.drewN 1
                have bx7D : Box wq.drew w3.heap.size 76 #[.slice (some ⟨bo, oo, none⟩) n2 c0, .slice A2 n2 c2, .slice A1 n2 c1, .slice A3 n3 c3, .slice (some ⟨bk, 0, none⟩) n2 n2] := bx7
                have hpD : OI 2 wq.drew B7 (.slice (some ⟨bk, 0, none⟩) n2 n2) c := hpk
                clear bx7 hpk hC e4 q0 kw ko kp
                have e0 := Box.e0 (w := wq.drew) (t := 76) bx7D; have e1 := Box.e1 (w := wq.drew) (t := 76) bx7D; have e2 := Box.e2 (w := wq.drew) (t := 76) bx7D; have e3 := Box.e3 (w := wq.drew) (t := 76) bx7D; have e4 := Box.e4 (w := wq.drew) (t := 76) bx7D
                refine wp_region_held_drew (S := (fun w' => w'.cell? ⟨w3.heap.size, 0, none⟩ = some (.slice (some ⟨bo, oo, none⟩) n2 c0) ∧ w'.cell? ⟨w3.heap.size, 1, none⟩ = some (.slice A2 n2 c2) ∧ w'.cell? ⟨w3.heap.size, 2, none⟩ = some (.slice A1 n2 c1) ∧ w'.cell? ⟨w3.heap.size, 3, none⟩ = some (.slice A3 n3 c3) ∧ w'.cell? ⟨w3.heap.size, 4, none⟩ = some (.slice (some ⟨bk, 0, none⟩) n2 n2))) (by kernel_rfl) (⟨e0, e1, e2, e3, e4⟩) (fun hHeld => ?_)
                generalize wq.drew = wD at *
                refine takeH0 (v := ?_) (by kernel_rfl) (by kernel_rfl) (by kernel_rfl) (fun _ _ _ h => h) hHeld (by rfl) ?_ ?_
                rotate_left; · (intro w hSw; (try dsimp only at hSw); go_simp; try with_reducible rfl)
                try simp only [Act.put, List.setIfInBounds_toArray, List.set_cons_zero, List.set_cons_succ]
                refine takeH1 (v := ?_) (by kernel_rfl) (by kernel_rfl) (by kernel_rfl) (fun _ _ _ h => h) hHeld (by rfl) ?_ ?_
                rotate_left; · (intro w hSw; (try dsimp only at hSw); go_simp; try with_reducible rfl)
                try simp only [Act.put, List.setIfInBounds_toArray, List.set_cons_zero, List.set_cons_succ]
                refine takeH2 (v := ?_) (by kernel_rfl) (by kernel_rfl) (by kernel_rfl) (fun _ _ _ h => h) hHeld (by rfl) ?_ ?_
                rotate_left; · (intro w hSw; (try dsimp only at hSw); go_simp; try with_reducible rfl)
                try simp only [Act.put, List.setIfInBounds_toArray, List.set_cons_zero, List.set_cons_succ]
                refine takeH3 (v := ?_) (by kernel_rfl) (by kernel_rfl) (by kernel_rfl) (fun _ _ _ h => h) hHeld (by rfl) ?_ ?_
                rotate_left; · (intro w hSw; (try dsimp only at hSw); go_simp; try with_reducible rfl)
                try simp only [Act.put, List.setIfInBounds_toArray, List.set_cons_zero, List.set_cons_succ]
                refine takeH4 (v := ?_) (by kernel_rfl) (by kernel_rfl) (by kernel_rfl) (fun _ _ _ h => h) hHeld (by rfl) ?_ ?_
                rotate_left; · (intro w hSw; (try dsimp only at hSw); go_simp; try with_reducible rfl)
                try simp only [Act.put, List.setIfInBounds_toArray, List.set_cons_zero, List.set_cons_succ]
                refine takeH5 (v := ?_) (by kernel_rfl) (by kernel_rfl) (by kernel_rfl) (fun _ _ _ h => h) hHeld (by rfl) ?_ ?_
                rotate_left; · (intro w hSw; (try dsimp only at hSw); go_simp; try with_reducible rfl)
                try simp only [Act.put, List.setIfInBounds_toArray, List.set_cons_zero, List.set_cons_succ]
                refine callH6 (by kernel_rfl) (fun K hK => ?_)
                go_simp
                go_at_call 61
                refine (l7Pick _ _ _ _ bk n2 n2 k _ (sOf g (negL n2)) c _ _ _ _ (HR.out.chg hCD) hpD HRC.out (HEr.out _ hCD) (HF7.out c HRC.out.1) hlt).mono ?_; rintro e w20 ⟨x, c_, rfl, hx, hp20, hc20, hch20⟩
                have hCE := hCD.trans hch20 (U := fun b => b = bk) (fun _ h => h) (fun _ h => h)
                have bx7E : Box w20 w3.heap.size 76 #[.slice (some ⟨bo, oo, none⟩) n2 c0, .slice A2 n2 c2, .slice A1 n2 c1, .slice A3 n3 c3, .slice (some ⟨bk, 0, none⟩) n2 n2] := (hch20.block _ bx7D.lt (fun e => by have h3 : w3.heap.size = bk := e; omega)).trans bx7D
                have HX := Lib.hid hx; have HC20 := Lib.hid hc20
                have hcm := hp20.cellAt (i := k) (by rw [HC20.out.1]; exact hlt)
                have hfz := hp20.hot (i := k) (by rw [HC20.out.1])
                clear e0 e1 e2 e3 e4 hx hc20 hpD bx7D hCD hch20
                have e0 := Box.e0 (w := w20) (t := 76) bx7E; have e1 := Box.e1 (w := w20) (t := 76) bx7E; have e2 := Box.e2 (w := w20) (t := 76) bx7E; have e3 := Box.e3 (w := w20) (t := 76) bx7E; have e4 := Box.e4 (w := w20) (t := 76) bx7E
                go_wp2_with fail
                refine hK.out _ _ (⟨e0, e1, e2, e3, e4⟩) (fun hHeld => ?_)
                clear hK K
                try simp only [Act.put, List.setIfInBounds_toArray, List.set_cons_zero, List.set_cons_succ]
                refine takeH7 (v := ?_) (by kernel_rfl) (by kernel_rfl) (by kernel_rfl) (fun _ _ _ h => h) hHeld (by rfl) ?_ ?_
                rotate_left; · (intro w hSw; (try dsimp only at hSw); go_simp; try with_reducible rfl)
                try simp only [Act.put, List.setIfInBounds_toArray, List.set_cons_zero, List.set_cons_succ]
                refine callH8 (by kernel_rfl) (fun K hK => ?_)
                have chS : Chg (fun b => b = bk) w20 (w20.setCell ⟨bk, k, none⟩ (.int .i64 x)) := Chg.set ⟨bk, k, none⟩ (.int .i64 x)
                have hCN := hCE.trans chS (U := fun b => b = bk) (fun _ h => h) (fun _ h => h)
                have bx7N := (chS.block _ bx7E.lt (fun e => by have h3 : w3.heap.size = bk := e; omega)).trans bx7E
                have hpN := hp20.set_ (i := k) (by rw [HC20.out.1]) x
                have HCN := Lib.hid (set_range HC20.out hlt HX.out)
                have e0N : (w20.setCell ⟨bk, k, none⟩ (.int .i64 x)).cell? ⟨w3.heap.size, 0, none⟩ = some _ := Box.e0 (w := (w20.setCell ⟨bk, k, none⟩ (.int .i64 x))) (t := 76) bx7N
                have e1N : (w20.setCell ⟨bk, k, none⟩ (.int .i64 x)).cell? ⟨w3.heap.size, 1, none⟩ = some _ := Box.e1 (w := (w20.setCell ⟨bk, k, none⟩ (.int .i64 x))) (t := 76) bx7N
                have e2N : (w20.setCell ⟨bk, k, none⟩ (.int .i64 x)).cell? ⟨w3.heap.size, 2, none⟩ = some _ := Box.e2 (w := (w20.setCell ⟨bk, k, none⟩ (.int .i64 x))) (t := 76) bx7N
                have e3N : (w20.setCell ⟨bk, k, none⟩ (.int .i64 x)).cell? ⟨w3.heap.size, 3, none⟩ = some _ := Box.e3 (w := (w20.setCell ⟨bk, k, none⟩ (.int .i64 x))) (t := 76) bx7N
                have e4N : (w20.setCell ⟨bk, k, none⟩ (.int .i64 x)).cell? ⟨w3.heap.size, 4, none⟩ = some _ := Box.e4 (w := (w20.setCell ⟨bk, k, none⟩ (.int .i64 x))) (t := 76) bx7N
                go_simp
                refine hK.out _ _ (⟨e0N, e1N, e2N, e3N, e4N⟩) (fun hHeld => ?_)
                clear hK K
                try simp only [Act.put, List.setIfInBounds_toArray, List.set_cons_zero, List.set_cons_succ]
                refine wpAnyH_done (by kernel_rfl) ?_ _
                have HPN := Lib.hid hpN
                clear hpN
                go_wp2
                exact ⟨⟨k + 1, _, by omega, by go_num, HPN.out, HCN, hCN⟩, by simp [intOf]; omega⟩
        · obtain rfl : k = n2 := by omega
          have e4 := Box.e4 (w := wr) (t := 76) bx7
          have brr : Box wr (w.heap.size + 1) 44 #[.slice none 0 0, .slice none 0 0] := (hC.block _ br77.lt (fun e => by have h3 : w.heap.size + 1 = bk := e; omega)).trans br77
          have z0 := brr.d0; have z1 := brr.d1; have y0 := brr.hot 0; have y1 := brr.hot 1
          have ch : Chg (fun x => x = w.heap.size + 1) wr ((wr.setCell ⟨w.heap.size + 1, 0, none⟩ (.slice AW k cW)).setCell ⟨w.heap.size + 1, 1, none⟩ (.slice (some ⟨bk, 0, none⟩) k k)) := (Chg.set (w := wr) ⟨w.heap.size + 1, 0, none⟩ (.slice AW k cW)).trans (Chg.set ⟨w.heap.size + 1, 1, none⟩ (.slice (some ⟨bk, 0, none⟩) k k)) (U := fun x => x = w.heap.size + 1) (fun _ h => h) (fun _ h => h)
          have hF : Box ((wr.setCell ⟨w.heap.size + 1, 0, none⟩ (.slice AW k cW)).setCell ⟨w.heap.size + 1, 1, none⟩ (.slice (some ⟨bk, 0, none⟩) k k)) (w.heap.size + 1) 44 #[.slice AW k cW, .slice (some ⟨bk, 0, none⟩) k k] := by have := (brr.set_ 0 (.slice AW k cW)).set_ 1 (.slice (some ⟨bk, 0, none⟩) k k); simpa using this
          have R0 := hF.d0; have R1 := hF.d1
          have hoF := hoWr.chg ch (fun b hb e => by have h3 : b = w.heap.size + 1 := e; have := (hoW7.lt b hb).1; omega)
          have hpF := hpk.chg ch (fun b hb e => by have h3 : b = w.heap.size + 1 := e; have := (hpk.lt b hb).1; omega)
          have hwF := hwr.trans (ch.below hwr.size (fun x hx => by have h3 : x = w.heap.size + 1 := hx; omega))
          clear hpk hoWr
          go_wp2
          exact bodyPost_ret (v := .tuple #[.agg #[.slice AW k cW, .slice (some ⟨bk, 0, none⟩) k k], .bool true]) (by simp [results, Try.results35, go_sem, R0, R1]) rfl ⟨_, _, c, rfl, hoF.more (by omega), hpF.more (by omega), by rw [HN.out]; exact HRC.out, hwF.mono hB⟩

end Go.Proofs.Ytblmcmccdeelgaa
namespace Go.Proofs.Ytblmcmccdeelgaa
open Go.RowKit

theorem twoH_4_9 {P : Program} {Q : Exit → Act → World → Prop} {md : Region.Mode} {S : World → Prop} {fuel : Nat} {listed : Array Bool} {a : Act} {w : World} {o0 o1 o2 o3 o4 o5 o6 o7 o8 o9 : Oper} {r : List Oper} (hr : Region.ready md (List.toArray (o0 :: o1 :: o2 :: o3 :: o4 :: o5 :: o6 :: o7 :: o8 :: o9 :: r)) listed = [4, 9])
    (h1 : ∀ K' : Act → World → Prop, Shut (∀ a w, S w → (S w → wpAnyH P md (List.toArray (o0 :: o1 :: o2 :: o3 :: o4 :: o5 :: o6 :: o7 :: o8 :: o9 :: r)) Q S fuel (listed.setIfInBounds 4 true) a w) → K' a w) → if Region.wanted o4 (yielded (List.toArray (o0 :: o1 :: o2 :: o3 :: o4 :: o5 :: o6 :: o7 :: o8 :: o9 :: r)) a.tmps) = true then Oper.wp P o4 a w K' Q else K' (a.put o4.dst undef) w) (h2 : ∀ K' : Act → World → Prop, Shut (∀ a w, S w → (S w → wpAnyH P md (List.toArray (o0 :: o1 :: o2 :: o3 :: o4 :: o5 :: o6 :: o7 :: o8 :: o9 :: r)) Q S fuel (listed.setIfInBounds 9 true) a w) → K' a w) → if Region.wanted o9 (yielded (List.toArray (o0 :: o1 :: o2 :: o3 :: o4 :: o5 :: o6 :: o7 :: o8 :: o9 :: r)) a.tmps) = true then Oper.wp P o9 a w K' Q else K' (a.put o9.dst undef) w) : wpAnyH P md (List.toArray (o0 :: o1 :: o2 :: o3 :: o4 :: o5 :: o6 :: o7 :: o8 :: o9 :: r)) Q S (fuel + 1) listed a w :=
  wpAnyH_ready (rs := [4, 9]) hr (by simp) (AllReadyH.cons rfl h1 (AllReadyH.cons rfl h2 AllReadyH.nil))
theorem twoH_5_9 {P : Program} {Q : Exit → Act → World → Prop} {md : Region.Mode} {S : World → Prop} {fuel : Nat} {listed : Array Bool} {a : Act} {w : World} {o0 o1 o2 o3 o4 o5 o6 o7 o8 o9 : Oper} {r : List Oper} (hr : Region.ready md (List.toArray (o0 :: o1 :: o2 :: o3 :: o4 :: o5 :: o6 :: o7 :: o8 :: o9 :: r)) listed = [5, 9])
    (h1 : ∀ K' : Act → World → Prop, Shut (∀ a w, S w → (S w → wpAnyH P md (List.toArray (o0 :: o1 :: o2 :: o3 :: o4 :: o5 :: o6 :: o7 :: o8 :: o9 :: r)) Q S fuel (listed.setIfInBounds 5 true) a w) → K' a w) → if Region.wanted o5 (yielded (List.toArray (o0 :: o1 :: o2 :: o3 :: o4 :: o5 :: o6 :: o7 :: o8 :: o9 :: r)) a.tmps) = true then Oper.wp P o5 a w K' Q else K' (a.put o5.dst undef) w) (h2 : ∀ K' : Act → World → Prop, Shut (∀ a w, S w → (S w → wpAnyH P md (List.toArray (o0 :: o1 :: o2 :: o3 :: o4 :: o5 :: o6 :: o7 :: o8 :: o9 :: r)) Q S fuel (listed.setIfInBounds 9 true) a w) → K' a w) → if Region.wanted o9 (yielded (List.toArray (o0 :: o1 :: o2 :: o3 :: o4 :: o5 :: o6 :: o7 :: o8 :: o9 :: r)) a.tmps) = true then Oper.wp P o9 a w K' Q else K' (a.put o9.dst undef) w) : wpAnyH P md (List.toArray (o0 :: o1 :: o2 :: o3 :: o4 :: o5 :: o6 :: o7 :: o8 :: o9 :: r)) Q S (fuel + 1) listed a w :=
  wpAnyH_ready (rs := [5, 9]) hr (by simp) (AllReadyH.cons rfl h1 (AllReadyH.cons rfl h2 AllReadyH.nil))

set_option maxRecDepth 100000 in
set_option maxHeartbeats 3200000 in
theorem solved (s0 s1 s2 : Value) (g : ParD) (w : World) (B : Nat) (hB : B ≤ w.heap.size) (hag : RPv w s0 s1 s2 g) (hpb : parB g = true) :
    Calls Try.prog 19 #[.agg #[s0, s1, s2]] w (SolTo w B g fun v0 v1 => .returned (.agg #[v0, v1])) := by
  have hf := finePar_of hpb
  obtain ⟨A0, n0, c0, A1, n1, c1, A2, n2, c2, rfl, rfl, rfl⟩ := hag.form
  have b1 := hag.ri.cap; have b2 := hag.ri.top; have b5 := hag.rii.cap; have b6 := hag.rii.top; have b7 := hag.rp.cap; have b8 := hag.rp.top
  have e0 : n2 = n0 := by rw [← hag.rp.len, ← hag.ri.len]; exact hf.2.1
  have e1 : n2 = n1 := by rw [← hag.rp.len, ← hag.rii.len, hf.2.1]; exact hf.1.2.2.1.symm
  subst e0; subst e1
  have HN := Lib.hid hag.ri.len
  have hnb : n2 ≤ 256 := by have := hf.1.2.1; rw [HN.out] at this; exact this
  have HPB := Lib.hid hpb
  have hba : Below w.heap.size w ((w.alloc (.cells #[.slice A0 n2 c0, .slice A1 n2 c1, .slice A2 n2 c2] 34)).alloc (.cells #[.slice none 0 0, .slice none 0 0] 44)) := below_alloc (Nat.le_refl _) (below_alloc (Nat.le_refl _) (Below.refl _ _))
  have bxL := (Box.new w 34 #[.slice A0 n2 c0, .slice A1 n2 c1, .slice A2 n2 c2]).alloc (.cells #[.slice none 0 0, .slice none 0 0] 44)
  have brL : Box ((w.alloc (.cells #[.slice A0 n2 c0, .slice A1 n2 c1, .slice A2 n2 c2] 34)).alloc (.cells #[.slice none 0 0, .slice none 0 0] 44)) (w.heap.size + 1) 44 #[.slice none 0 0, .slice none 0 0] := Box.new' (by simp)
  have HPF := Lib.hid (show ∀ C d w', Below w.heap.size w w' → RI w' C n2 d (negL n2) → Calls Try.prog 35 #[.agg #[.slice A0 n2 c0, .slice A1 n2 c1, .slice A2 n2 c2], .slice C n2 d] w' (SolTo w' w'.heap.size g fun v0 v1 => .returned (.tuple #[.agg #[v0, v1], .bool true])) from fun C d w' hb hc => by
    have h := planFrom _ _ _ g C d w' _ (Nat.le_refl _) (hag.keep (keeps_below hb)) (by rw [HN.out]; exact hc) HPB.out
    rw [HN.out] at h
    exact h)
  have q0 := bxL.c0; have q1 := bxL.c1; have q2 := bxL.c2
  clear hf hpb
  go_enter Try.func19, Try.ntmps19
  go_wp2_with fail
  refine (specParityOk _ _ _ g _ _ (Nat.le_refl _) (hag.keep (keeps_below hba))).mono ?_; rintro e w1 ⟨rfl, hb1⟩
  rw [HPB.out]
  have hw1 := below_then hb1 hba.size hba
  have bx1 := bxL.on hb1; have br1 := brL.on hb1
  clear q0 q1 q2 hba bxL brL hb1
  have q0 := bx1.c0; have q1 := bx1.c1; have q2 := bx1.c2
  go_upto_region 3 with (fail)
  go_cut [3] (fun u3 wx => Hid (∃ (bb : Nat) (X Y : Option Addr) (x y : Nat) (plan : List Int), u3 = .pointer (some ⟨bb, 0, none⟩) ∧ Box wx bb 44 #[.slice X n2 x, .slice Y n2 y] ∧ OI 2 wx (w.heap.size + 2) (.slice X n2 x) (wonL g) ∧ OI 2 wx (w.heap.size + 2) (.slice Y n2 y) plan ∧ Hid (plan.length = g.1.length ∧ ∀ v, v < g.1.length → -1 ≤ gi plan v ∧ gi plan v < g.1.length) ∧ w.heap.size + 2 ≤ bb ∧ Box wx w.heap.size 34 #[.slice A0 n2 c0, .slice A1 n2 c1, .slice A2 n2 c2] ∧ Box wx (w.heap.size + 1) 44 #[.slice none 0 0, .slice none 0 0] ∧ Below w.heap.size w wx))
  case first =>
    have hwC := Below.drew hw1
    have bxC : Box w1.drew w.heap.size 34 #[.slice A0 n2 c0, .slice A1 n2 c1, .slice A2 n2 c2] := bx1
    have brC : Box w1.drew (w.heap.size + 1) 44 #[.slice none 0 0, .slice none 0 0] := br1
    have hlA : w.heap.size + 2 ≤ w1.drew.heap.size := brC.lt
    replace q0 := bxC.c0; replace q1 := bxC.c1; replace q2 := bxC.c2
    refine wp_region_held_drew (S := (fun w' => w'.cell? ⟨w.heap.size, 0, none⟩ = some (.slice A0 n2 c0) ∧ w'.cell? ⟨w.heap.size, 1, none⟩ = some (.slice A1 n2 c1) ∧ w'.cell? ⟨w.heap.size, 2, none⟩ = some (.slice A2 n2 c2))) (by kernel_rfl) (⟨q0, q1, q2⟩) (fun hHeld => ?_)
    clear hw1 bx1 br1
    generalize w1.drew = wD at *
    have hlD : w.heap.size + 2 ≤ wD.heap.size := brC.lt
    refine takeH0 (v := ?_) (by kernel_rfl) (by kernel_rfl) (by kernel_rfl) (fun _ _ _ h => h) hHeld (by rfl) ?_ ?_
    rotate_left; · (intro w hSw; (try dsimp only at hSw); go_simp; try with_reducible rfl)
    try simp only [Act.put, List.setIfInBounds_toArray, List.set_cons_zero, List.set_cons_succ]
    refine takeH1 (v := ?_) (by kernel_rfl) (by kernel_rfl) (by kernel_rfl) (fun _ _ _ h => h) hHeld (by rfl) ?_ ?_
    rotate_left; · (intro w hSw; (try dsimp only at hSw); go_simp; try with_reducible rfl)
    try simp only [Act.put, List.setIfInBounds_toArray, List.set_cons_zero, List.set_cons_succ]
    refine takeH2 (v := ?_) (by kernel_rfl) (by kernel_rfl) (by kernel_rfl) (fun _ _ _ h => h) hHeld (by rfl) ?_ ?_
    rotate_left; · (intro w hSw; (try dsimp only at hSw); go_simp; try with_reducible rfl)
    try simp only [Act.put, List.setIfInBounds_toArray, List.set_cons_zero, List.set_cons_succ]
    refine takeH3 (v := ?_) (by kernel_rfl) (by kernel_rfl) (by kernel_rfl) (fun _ _ _ h => h) hHeld (by rfl) ?_ ?_
    rotate_left; · (intro w hSw; (try dsimp only at hSw); go_simp; try with_reducible rfl)
    try simp only [Act.put, List.setIfInBounds_toArray, List.set_cons_zero, List.set_cons_succ]
    refine twoH_4_9 (by kernel_rfl) (fun K hK => ?_) (fun K hK => ?_)
    · go_simp
      go_at_call 36
      refine (l7None n2 _ _ (Nat.le_refl _) hnb).mono ?_; rintro e w3 ⟨v3, rfl, hoN, hb3⟩
      obtain ⟨X3, x3, hve⟩ := hoN.form
      rw [show (negL n2).length = n2 from fill_len _ _] at hve
      subst hve
      have shb3 := hb3.size
      replace hwC := below_then hb3 hwC.size hwC
      replace bxC := bxC.on hb3
      replace brC := brC.on hb3
      clear q0 q1 q2
      have q0 := bxC.c0; have q1 := bxC.c1; have q2 := bxC.c2
      go_wp2_with fail
      refine hK.out _ _ (⟨q0, q1, q2⟩) (fun hHeld => ?_)
      clear hK K
      try simp only [Act.put, List.setIfInBounds_toArray, List.set_cons_zero, List.set_cons_succ]
      refine twoH_5_9 (by kernel_rfl) (fun K hK => ?_) (fun K hK => ?_)
      · go_simp
        go_at_call 35
        refine (HPF.out _ _ _ hwC hoN.reads).mono ?_; rintro e w7 ⟨v0, v1, plan, rfl, hv0, hv1, hpl, hb7⟩
        have l7 := hwC.size
        have l72 := brC.lt
        replace hv0 := hv0.more (show w.heap.size + 2 ≤ _ by omega)
        replace hv1 := hv1.more (show w.heap.size + 2 ≤ _ by omega)
        obtain ⟨X, x, hve⟩ := hv0.form
        rw [wonL_len, HN.out] at hve
        subst hve
        obtain ⟨Y, y, hve⟩ := hv1.form
        rw [hpl.1, HN.out] at hve
        subst hve
        have HPL := Lib.hid hpl
        clear hpl
        have shb7 := hb7.size
        replace hwC := below_then hb7 hwC.size hwC
        replace bxC := bxC.on hb7
        replace brC := brC.on hb7
        replace hoN := hoN.below hb7
        clear q0 q1 q2
        have q0 := bxC.c0; have q1 := bxC.c1; have q2 := bxC.c2
        go_wp2_with fail
        refine hK.out _ _ (⟨q0, q1, q2⟩) (fun hHeld => ?_)
        clear hK K
        try simp only [Act.put, List.setIfInBounds_toArray, List.set_cons_zero, List.set_cons_succ]
        refine takeH6 (v := ?_) (by kernel_rfl) (by kernel_rfl) (by kernel_rfl) (fun _ _ _ h => h) hHeld (by rfl) ?_ ?_
        rotate_left; · (intro w hSw; (try dsimp only at hSw); go_simp; try with_reducible rfl)
        try simp only [Act.put, List.setIfInBounds_toArray, List.set_cons_zero, List.set_cons_succ]
        refine takeH7 (v := ?_) (by kernel_rfl) (by kernel_rfl) (by kernel_rfl) (fun _ _ _ h => h) hHeld (by rfl) ?_ ?_
        rotate_left; · (intro w hSw; (try dsimp only at hSw); go_simp; try with_reducible rfl)
        try simp only [Act.put, List.setIfInBounds_toArray, List.set_cons_zero, List.set_cons_succ]
        refine takeH8 (v := ?_) (by kernel_rfl) (by kernel_rfl) (by kernel_rfl) (fun _ _ _ h => h) hHeld (by rfl) ?_ ?_
        rotate_left; · (intro w hSw; (try dsimp only at hSw); go_simp; try with_reducible rfl)
        try simp only [Act.put, List.setIfInBounds_toArray, List.set_cons_zero, List.set_cons_succ]
        refine callH9 (by kernel_rfl) (fun K hK => ?_)
        have q0A : (w7.alloc (.cells #[.slice none 0 0, .slice none 0 0] 44)).cell? ⟨w.heap.size, 0, none⟩ = some (.slice A0 n2 c0) := keepA q0
        have q1A : (w7.alloc (.cells #[.slice none 0 0, .slice none 0 0] 44)).cell? ⟨w.heap.size, 1, none⟩ = some (.slice A1 n2 c1) := keepA q1
        have q2A : (w7.alloc (.cells #[.slice none 0 0, .slice none 0 0] 44)).cell? ⟨w.heap.size, 2, none⟩ = some (.slice A2 n2 c2) := keepA q2
        go_simp
        refine hK.out _ _ (⟨q0A, q1A, q2A⟩) (fun hHeld => ?_)
        clear hK K
        try simp only [Act.put, List.setIfInBounds_toArray, List.set_cons_zero, List.set_cons_succ]
        have hl9 : w.heap.size + 2 ≤ w7.heap.size := brC.lt
        have hbA : Below w7.heap.size w7 (w7.alloc (.cells #[.slice none 0 0, .slice none 0 0] 44)) := below_alloc (Nat.le_refl _) (Below.refl _ _)
        have bz : Box (w7.alloc (.cells #[.slice none 0 0, .slice none 0 0] 44)) w7.heap.size 44 #[.slice none 0 0, .slice none 0 0] := Box.new _ _ _
        have shbA := hbA.size
        replace hwC := below_then hbA hwC.size hwC
        replace bxC := bxC.on hbA
        replace brC := brC.on hbA
        replace hoN := hoN.below hbA
        replace hv0 := hv0.below hbA
        replace hv1 := hv1.below hbA
        clear q0 q1 q2
        have q0 := bxC.c0; have q1 := bxC.c1; have q2 := bxC.c2
        generalize w7.alloc (.cells #[.slice none 0 0, .slice none 0 0] 44) = wA at *
        refine callH10 (by kernel_rfl) (fun K hK => ?_)
        have z0 := bz.d0; have z1 := bz.d1; have y0 := bz.hot 0; have y1 := bz.hot 1
        have sA := bz.lt
        have sX := hlA
        have hch : Chg (fun x => x = w7.heap.size) wA ((wA.setCell ⟨w7.heap.size, 0, none⟩ (.slice X n2 x)).setCell ⟨w7.heap.size, 1, none⟩ (.slice Y n2 y)) := (Chg.set ⟨w7.heap.size, 0, none⟩ (.slice X n2 x)).trans (Chg.set ⟨w7.heap.size, 1, none⟩ (.slice Y n2 y)) (fun _ h => h) (fun _ h => h)
        have hz5 : Box ((wA.setCell ⟨w7.heap.size, 0, none⟩ (.slice X n2 x)).setCell ⟨w7.heap.size, 1, none⟩ (.slice Y n2 y)) (w7.heap.size) 44 #[.slice X n2 x, .slice Y n2 y] := by have := (bz.set_ 0 (.slice X n2 x)).set_ 1 (.slice Y n2 y); simpa using this
        have h05 := hv0.chgBox bz (by decide) hch
        have h25 := hv1.chgBox bz (by decide) hch
        have hx5 := (hch.block _ bxC.lt (fun e => by have h5 : w.heap.size = w7.heap.size := e; omega)).trans bxC
        have hr5 := (hch.block _ brC.lt (fun e => by have h5 : w.heap.size + 1 = w7.heap.size := e; omega)).trans brC
        have hw5 := hwC.trans (hch.below hwC.size (fun x hx => by have h5 : x = w7.heap.size := hx; omega))
        have q0A : ((wA.setCell ⟨w7.heap.size, 0, none⟩ (.slice X n2 x)).setCell ⟨w7.heap.size, 1, none⟩ (.slice Y n2 y)).cell? ⟨w.heap.size, 0, none⟩ = some (.slice A0 n2 c0) := Box.c0 (w := ((wA.setCell ⟨w7.heap.size, 0, none⟩ (.slice X n2 x)).setCell ⟨w7.heap.size, 1, none⟩ (.slice Y n2 y))) (t := 34) hx5
        have q1A : ((wA.setCell ⟨w7.heap.size, 0, none⟩ (.slice X n2 x)).setCell ⟨w7.heap.size, 1, none⟩ (.slice Y n2 y)).cell? ⟨w.heap.size, 1, none⟩ = some (.slice A1 n2 c1) := Box.c1 (w := ((wA.setCell ⟨w7.heap.size, 0, none⟩ (.slice X n2 x)).setCell ⟨w7.heap.size, 1, none⟩ (.slice Y n2 y))) (t := 34) hx5
        have q2A : ((wA.setCell ⟨w7.heap.size, 0, none⟩ (.slice X n2 x)).setCell ⟨w7.heap.size, 1, none⟩ (.slice Y n2 y)).cell? ⟨w.heap.size, 2, none⟩ = some (.slice A2 n2 c2) := Box.c2 (w := ((wA.setCell ⟨w7.heap.size, 0, none⟩ (.slice X n2 x)).setCell ⟨w7.heap.size, 1, none⟩ (.slice Y n2 y))) (t := 34) hx5
        go_simp
        refine hK.out _ _ (⟨q0A, q1A, q2A⟩) (fun hHeld => ?_)
        clear hK K
        try simp only [Act.put, List.setIfInBounds_toArray, List.set_cons_zero, List.set_cons_succ]
        refine takeH11 (v := ?_) (by kernel_rfl) (by kernel_rfl) (by kernel_rfl) (fun _ _ _ h => h) hHeld (by rfl) ?_ ?_
        rotate_left; · (intro w hSw; (try dsimp only at hSw); go_simp; try with_reducible rfl)
        try simp only [Act.put, List.setIfInBounds_toArray, List.set_cons_zero, List.set_cons_succ]
        refine wpAnyH_done (by kernel_rfl) ?_ _
        go_wp2_with fail; go_meet
        refine Lib.hid ⟨w7.heap.size, _, _, _, _, plan, rfl, hz5, h05, h25, HPL, hl9, hx5, hr5, hw5⟩
      · have q0A : (w3.alloc (.cells #[.slice none 0 0, .slice none 0 0] 44)).cell? ⟨w.heap.size, 0, none⟩ = some (.slice A0 n2 c0) := keepA q0
        have q1A : (w3.alloc (.cells #[.slice none 0 0, .slice none 0 0] 44)).cell? ⟨w.heap.size, 1, none⟩ = some (.slice A1 n2 c1) := keepA q1
        have q2A : (w3.alloc (.cells #[.slice none 0 0, .slice none 0 0] 44)).cell? ⟨w.heap.size, 2, none⟩ = some (.slice A2 n2 c2) := keepA q2
        go_simp
        refine hK.out _ _ (⟨q0A, q1A, q2A⟩) (fun hHeld => ?_)
        clear hK K
        try simp only [Act.put, List.setIfInBounds_toArray, List.set_cons_zero, List.set_cons_succ]
        have hl9 : w.heap.size + 2 ≤ w3.heap.size := brC.lt
        have hbA : Below w3.heap.size w3 (w3.alloc (.cells #[.slice none 0 0, .slice none 0 0] 44)) := below_alloc (Nat.le_refl _) (Below.refl _ _)
        have bz : Box (w3.alloc (.cells #[.slice none 0 0, .slice none 0 0] 44)) w3.heap.size 44 #[.slice none 0 0, .slice none 0 0] := Box.new _ _ _
        have shbA := hbA.size
        replace hwC := below_then hbA hwC.size hwC
        replace bxC := bxC.on hbA
        replace brC := brC.on hbA
        replace hoN := hoN.below hbA
        clear q0 q1 q2
        have q0 := bxC.c0; have q1 := bxC.c1; have q2 := bxC.c2
        generalize w3.alloc (.cells #[.slice none 0 0, .slice none 0 0] 44) = wA at *
        refine callH5 (by kernel_rfl) (fun K hK => ?_)
        go_simp
        go_at_call 35
        refine (HPF.out _ _ _ hwC hoN.reads).mono ?_; rintro e w7 ⟨v0, v1, plan, rfl, hv0, hv1, hpl, hb7⟩
        have l7 := hwC.size
        have l72 := brC.lt
        replace hv0 := hv0.more (show w.heap.size + 2 ≤ _ by omega)
        replace hv1 := hv1.more (show w.heap.size + 2 ≤ _ by omega)
        obtain ⟨X, x, hve⟩ := hv0.form
        rw [wonL_len, HN.out] at hve
        subst hve
        obtain ⟨Y, y, hve⟩ := hv1.form
        rw [hpl.1, HN.out] at hve
        subst hve
        have HPL := Lib.hid hpl
        clear hpl
        have shb7 := hb7.size
        replace hwC := below_then hb7 hwC.size hwC
        replace bxC := bxC.on hb7
        replace brC := brC.on hb7
        replace hoN := hoN.below hb7
        replace bz := bz.on hb7
        clear q0 q1 q2
        have q0 := bxC.c0; have q1 := bxC.c1; have q2 := bxC.c2
        go_wp2_with fail
        refine hK.out _ _ (⟨q0, q1, q2⟩) (fun hHeld => ?_)
        clear hK K
        try simp only [Act.put, List.setIfInBounds_toArray, List.set_cons_zero, List.set_cons_succ]
        refine takeH6 (v := ?_) (by kernel_rfl) (by kernel_rfl) (by kernel_rfl) (fun _ _ _ h => h) hHeld (by rfl) ?_ ?_
        rotate_left; · (intro w hSw; (try dsimp only at hSw); go_simp; try with_reducible rfl)
        try simp only [Act.put, List.setIfInBounds_toArray, List.set_cons_zero, List.set_cons_succ]
        refine takeH7 (v := ?_) (by kernel_rfl) (by kernel_rfl) (by kernel_rfl) (fun _ _ _ h => h) hHeld (by rfl) ?_ ?_
        rotate_left; · (intro w hSw; (try dsimp only at hSw); go_simp; try with_reducible rfl)
        try simp only [Act.put, List.setIfInBounds_toArray, List.set_cons_zero, List.set_cons_succ]
        refine takeH8 (v := ?_) (by kernel_rfl) (by kernel_rfl) (by kernel_rfl) (fun _ _ _ h => h) hHeld (by rfl) ?_ ?_
        rotate_left; · (intro w hSw; (try dsimp only at hSw); go_simp; try with_reducible rfl)
        try simp only [Act.put, List.setIfInBounds_toArray, List.set_cons_zero, List.set_cons_succ]
        refine callH10 (by kernel_rfl) (fun K hK => ?_)
        have z0 := bz.d0; have z1 := bz.d1; have y0 := bz.hot 0; have y1 := bz.hot 1
        have sA := bz.lt
        have sX := hlA
        have hch : Chg (fun x => x = w3.heap.size) w7 ((w7.setCell ⟨w3.heap.size, 0, none⟩ (.slice X n2 x)).setCell ⟨w3.heap.size, 1, none⟩ (.slice Y n2 y)) := (Chg.set ⟨w3.heap.size, 0, none⟩ (.slice X n2 x)).trans (Chg.set ⟨w3.heap.size, 1, none⟩ (.slice Y n2 y)) (fun _ h => h) (fun _ h => h)
        have hz5 : Box ((w7.setCell ⟨w3.heap.size, 0, none⟩ (.slice X n2 x)).setCell ⟨w3.heap.size, 1, none⟩ (.slice Y n2 y)) (w3.heap.size) 44 #[.slice X n2 x, .slice Y n2 y] := by have := (bz.set_ 0 (.slice X n2 x)).set_ 1 (.slice Y n2 y); simpa using this
        have h05 := hv0.chgBox bz (by decide) hch
        have h25 := hv1.chgBox bz (by decide) hch
        have hx5 := (hch.block _ bxC.lt (fun e => by have h5 : w.heap.size = w3.heap.size := e; omega)).trans bxC
        have hr5 := (hch.block _ brC.lt (fun e => by have h5 : w.heap.size + 1 = w3.heap.size := e; omega)).trans brC
        have hw5 := hwC.trans (hch.below hwC.size (fun x hx => by have h5 : x = w3.heap.size := hx; omega))
        have q0A : ((w7.setCell ⟨w3.heap.size, 0, none⟩ (.slice X n2 x)).setCell ⟨w3.heap.size, 1, none⟩ (.slice Y n2 y)).cell? ⟨w.heap.size, 0, none⟩ = some (.slice A0 n2 c0) := Box.c0 (w := ((w7.setCell ⟨w3.heap.size, 0, none⟩ (.slice X n2 x)).setCell ⟨w3.heap.size, 1, none⟩ (.slice Y n2 y))) (t := 34) hx5
        have q1A : ((w7.setCell ⟨w3.heap.size, 0, none⟩ (.slice X n2 x)).setCell ⟨w3.heap.size, 1, none⟩ (.slice Y n2 y)).cell? ⟨w.heap.size, 1, none⟩ = some (.slice A1 n2 c1) := Box.c1 (w := ((w7.setCell ⟨w3.heap.size, 0, none⟩ (.slice X n2 x)).setCell ⟨w3.heap.size, 1, none⟩ (.slice Y n2 y))) (t := 34) hx5
        have q2A : ((w7.setCell ⟨w3.heap.size, 0, none⟩ (.slice X n2 x)).setCell ⟨w3.heap.size, 1, none⟩ (.slice Y n2 y)).cell? ⟨w.heap.size, 2, none⟩ = some (.slice A2 n2 c2) := Box.c2 (w := ((w7.setCell ⟨w3.heap.size, 0, none⟩ (.slice X n2 x)).setCell ⟨w3.heap.size, 1, none⟩ (.slice Y n2 y))) (t := 34) hx5
        go_simp
        refine hK.out _ _ (⟨q0A, q1A, q2A⟩) (fun hHeld => ?_)
        clear hK K
        try simp only [Act.put, List.setIfInBounds_toArray, List.set_cons_zero, List.set_cons_succ]
        refine takeH11 (v := ?_) (by kernel_rfl) (by kernel_rfl) (by kernel_rfl) (fun _ _ _ h => h) hHeld (by rfl) ?_ ?_
        rotate_left; · (intro w hSw; (try dsimp only at hSw); go_simp; try with_reducible rfl)
        try simp only [Act.put, List.setIfInBounds_toArray, List.set_cons_zero, List.set_cons_succ]
        refine wpAnyH_done (by kernel_rfl) ?_ _
        go_wp2_with fail; go_meet
        refine Lib.hid ⟨w3.heap.size, _, _, _, _, plan, rfl, hz5, h05, h25, HPL, hl9, hx5, hr5, hw5⟩
    · have q0A : (wD.alloc (.cells #[.slice none 0 0, .slice none 0 0] 44)).cell? ⟨w.heap.size, 0, none⟩ = some (.slice A0 n2 c0) := keepA q0
      have q1A : (wD.alloc (.cells #[.slice none 0 0, .slice none 0 0] 44)).cell? ⟨w.heap.size, 1, none⟩ = some (.slice A1 n2 c1) := keepA q1
      have q2A : (wD.alloc (.cells #[.slice none 0 0, .slice none 0 0] 44)).cell? ⟨w.heap.size, 2, none⟩ = some (.slice A2 n2 c2) := keepA q2
      go_simp
      refine hK.out _ _ (⟨q0A, q1A, q2A⟩) (fun hHeld => ?_)
      clear hK K
      try simp only [Act.put, List.setIfInBounds_toArray, List.set_cons_zero, List.set_cons_succ]
      have hl9 : w.heap.size + 2 ≤ wD.heap.size := hlA
      have hbA : Below wD.heap.size wD (wD.alloc (.cells #[.slice none 0 0, .slice none 0 0] 44)) := below_alloc (Nat.le_refl _) (Below.refl _ _)
      have bz : Box (wD.alloc (.cells #[.slice none 0 0, .slice none 0 0] 44)) wD.heap.size 44 #[.slice none 0 0, .slice none 0 0] := Box.new _ _ _
      have shbA := hbA.size
      replace hwC := below_then hbA hwC.size hwC
      replace bxC := bxC.on hbA
      replace brC := brC.on hbA
      clear q0 q1 q2
      have q0 := bxC.c0; have q1 := bxC.c1; have q2 := bxC.c2
      generalize wD.alloc (.cells #[.slice none 0 0, .slice none 0 0] 44) = wA at *
      refine callH4 (by kernel_rfl) (fun K hK => ?_)
      go_simp
      go_at_call 36
      refine (l7None n2 _ _ (Nat.le_refl _) hnb).mono ?_; rintro e w3 ⟨v3, rfl, hoN, hb3⟩
      obtain ⟨X3, x3, hve⟩ := hoN.form
      rw [show (negL n2).length = n2 from fill_len _ _] at hve
      subst hve
      have shb3 := hb3.size
      replace hwC := below_then hb3 hwC.size hwC
      replace bxC := bxC.on hb3
      replace brC := brC.on hb3
      replace bz := bz.on hb3
      clear q0 q1 q2
      have q0 := bxC.c0; have q1 := bxC.c1; have q2 := bxC.c2
      go_wp2_with fail
      refine hK.out _ _ (⟨q0, q1, q2⟩) (fun hHeld => ?_)
      clear hK K
      try simp only [Act.put, List.setIfInBounds_toArray, List.set_cons_zero, List.set_cons_succ]
      refine callH5 (by kernel_rfl) (fun K hK => ?_)
      go_simp
      go_at_call 35
      refine (HPF.out _ _ _ hwC hoN.reads).mono ?_; rintro e w7 ⟨v0, v1, plan, rfl, hv0, hv1, hpl, hb7⟩
      have l7 := hwC.size
      have l72 := brC.lt
      replace hv0 := hv0.more (show w.heap.size + 2 ≤ _ by omega)
      replace hv1 := hv1.more (show w.heap.size + 2 ≤ _ by omega)
      obtain ⟨X, x, hve⟩ := hv0.form
      rw [wonL_len, HN.out] at hve
      subst hve
      obtain ⟨Y, y, hve⟩ := hv1.form
      rw [hpl.1, HN.out] at hve
      subst hve
      have HPL := Lib.hid hpl
      clear hpl
      have shb7 := hb7.size
      replace hwC := below_then hb7 hwC.size hwC
      replace bxC := bxC.on hb7
      replace brC := brC.on hb7
      replace hoN := hoN.below hb7
      replace bz := bz.on hb7
      clear q0 q1 q2
      have q0 := bxC.c0; have q1 := bxC.c1; have q2 := bxC.c2
      go_wp2_with fail
      refine hK.out _ _ (⟨q0, q1, q2⟩) (fun hHeld => ?_)
      clear hK K
      try simp only [Act.put, List.setIfInBounds_toArray, List.set_cons_zero, List.set_cons_succ]
      refine takeH6 (v := ?_) (by kernel_rfl) (by kernel_rfl) (by kernel_rfl) (fun _ _ _ h => h) hHeld (by rfl) ?_ ?_
      rotate_left; · (intro w hSw; (try dsimp only at hSw); go_simp; try with_reducible rfl)
      try simp only [Act.put, List.setIfInBounds_toArray, List.set_cons_zero, List.set_cons_succ]
      refine takeH7 (v := ?_) (by kernel_rfl) (by kernel_rfl) (by kernel_rfl) (fun _ _ _ h => h) hHeld (by rfl) ?_ ?_
      rotate_left; · (intro w hSw; (try dsimp only at hSw); go_simp; try with_reducible rfl)
      try simp only [Act.put, List.setIfInBounds_toArray, List.set_cons_zero, List.set_cons_succ]
      refine takeH8 (v := ?_) (by kernel_rfl) (by kernel_rfl) (by kernel_rfl) (fun _ _ _ h => h) hHeld (by rfl) ?_ ?_
      rotate_left; · (intro w hSw; (try dsimp only at hSw); go_simp; try with_reducible rfl)
      try simp only [Act.put, List.setIfInBounds_toArray, List.set_cons_zero, List.set_cons_succ]
      refine callH10 (by kernel_rfl) (fun K hK => ?_)
      have z0 := bz.d0; have z1 := bz.d1; have y0 := bz.hot 0; have y1 := bz.hot 1
      have sA := bz.lt
      have sX := hlA
      have hch : Chg (fun x => x = wD.heap.size) w7 ((w7.setCell ⟨wD.heap.size, 0, none⟩ (.slice X n2 x)).setCell ⟨wD.heap.size, 1, none⟩ (.slice Y n2 y)) := (Chg.set ⟨wD.heap.size, 0, none⟩ (.slice X n2 x)).trans (Chg.set ⟨wD.heap.size, 1, none⟩ (.slice Y n2 y)) (fun _ h => h) (fun _ h => h)
      have hz5 : Box ((w7.setCell ⟨wD.heap.size, 0, none⟩ (.slice X n2 x)).setCell ⟨wD.heap.size, 1, none⟩ (.slice Y n2 y)) (wD.heap.size) 44 #[.slice X n2 x, .slice Y n2 y] := by have := (bz.set_ 0 (.slice X n2 x)).set_ 1 (.slice Y n2 y); simpa using this
      have h05 := hv0.chgBox bz (by decide) hch
      have h25 := hv1.chgBox bz (by decide) hch
      have hx5 := (hch.block _ bxC.lt (fun e => by have h5 : w.heap.size = wD.heap.size := e; omega)).trans bxC
      have hr5 := (hch.block _ brC.lt (fun e => by have h5 : w.heap.size + 1 = wD.heap.size := e; omega)).trans brC
      have hw5 := hwC.trans (hch.below hwC.size (fun x hx => by have h5 : x = wD.heap.size := hx; omega))
      have q0A : ((w7.setCell ⟨wD.heap.size, 0, none⟩ (.slice X n2 x)).setCell ⟨wD.heap.size, 1, none⟩ (.slice Y n2 y)).cell? ⟨w.heap.size, 0, none⟩ = some (.slice A0 n2 c0) := Box.c0 (w := ((w7.setCell ⟨wD.heap.size, 0, none⟩ (.slice X n2 x)).setCell ⟨wD.heap.size, 1, none⟩ (.slice Y n2 y))) (t := 34) hx5
      have q1A : ((w7.setCell ⟨wD.heap.size, 0, none⟩ (.slice X n2 x)).setCell ⟨wD.heap.size, 1, none⟩ (.slice Y n2 y)).cell? ⟨w.heap.size, 1, none⟩ = some (.slice A1 n2 c1) := Box.c1 (w := ((w7.setCell ⟨wD.heap.size, 0, none⟩ (.slice X n2 x)).setCell ⟨wD.heap.size, 1, none⟩ (.slice Y n2 y))) (t := 34) hx5
      have q2A : ((w7.setCell ⟨wD.heap.size, 0, none⟩ (.slice X n2 x)).setCell ⟨wD.heap.size, 1, none⟩ (.slice Y n2 y)).cell? ⟨w.heap.size, 2, none⟩ = some (.slice A2 n2 c2) := Box.c2 (w := ((w7.setCell ⟨wD.heap.size, 0, none⟩ (.slice X n2 x)).setCell ⟨wD.heap.size, 1, none⟩ (.slice Y n2 y))) (t := 34) hx5
      go_simp
      refine hK.out _ _ (⟨q0A, q1A, q2A⟩) (fun hHeld => ?_)
      clear hK K
      try simp only [Act.put, List.setIfInBounds_toArray, List.set_cons_zero, List.set_cons_succ]
      refine takeH11 (v := ?_) (by kernel_rfl) (by kernel_rfl) (by kernel_rfl) (fun _ _ _ h => h) hHeld (by rfl) ?_ ?_
      rotate_left; · (intro w hSw; (try dsimp only at hSw); go_simp; try with_reducible rfl)
      try simp only [Act.put, List.setIfInBounds_toArray, List.set_cons_zero, List.set_cons_succ]
      refine wpAnyH_done (by kernel_rfl) ?_ _
      go_wp2_with fail; go_meet
      refine Lib.hid ⟨wD.heap.size, _, _, _, _, plan, rfl, hz5, h05, h25, HPL, hl9, hx5, hr5, hw5⟩
  case rest =>
    obtain ⟨bb, X, Y, x, y, plan, rfl, bb_, ho0, ho2, HPL, hlb, bx_, br_, hwc⟩ := hcut.out
    clear hcut q0 q1 q2 bx1 br1 hw1
    have hbl := bb_.lt; have hbr_ := br_.lt
    have d0 := bb_.d0; have d1 := bb_.d1
    have z0 := br_.d0; have z1 := br_.d1; have y0 := br_.hot 0; have y1 := br_.hot 1
    have ch : Chg (fun x => x = w.heap.size + 1) wc ((wc.setCell ⟨w.heap.size + 1, 0, none⟩ (.slice X n2 x)).setCell ⟨w.heap.size + 1, 1, none⟩ (.slice Y n2 y)) := (Chg.set ⟨w.heap.size + 1, 0, none⟩ (.slice X n2 x)).trans (Chg.set ⟨w.heap.size + 1, 1, none⟩ (.slice Y n2 y)) (fun _ h => h) (fun _ h => h)
    have hF : Box ((wc.setCell ⟨w.heap.size + 1, 0, none⟩ (.slice X n2 x)).setCell ⟨w.heap.size + 1, 1, none⟩ (.slice Y n2 y)) (w.heap.size + 1) 44 #[.slice X n2 x, .slice Y n2 y] := by have := (br_.set_ 0 (.slice X n2 x)).set_ 1 (.slice Y n2 y); simpa using this
    have R0 := hF.d0; have R1 := hF.d1
    have hoF := ho0.chgBox br_ (by decide) ch
    have hpF := ho2.chgBox br_ (by decide) ch
    have hwF := hwc.trans (ch.below hwc.size (fun x hx => by have h3 : x = w.heap.size + 1 := hx; omega))
    go_wp2
    exact bodyPost_ret (v := .agg #[.slice X n2 x, .slice Y n2 y]) (by simp [results, Try.results19, go_sem, R0, R1]) rfl ⟨_, _, plan, rfl, hoF.more (by omega), hpF.more (by omega), HPL.out, hwF.mono hB⟩

/-- the first field of an answer -/
@[go_sem] theorem field_won (w : World) (X Y : Option Addr) (m n x y : Nat) : Sem.run Try.prog (Instr.field 44 (.agg #[.slice X m x, .slice Y n y]) 0) w = .ok (.slice X m x) w := by kernel_rfl
/-- Solved, its answer in slices of the game's size -/
theorem solvedN (s0 s1 s2 : Value) (g : ParD) (n : Nat) (w : World) (B : Nat) (hB : B ≤ w.heap.size) (hag : RPv w s0 s1 s2 g) (hp : parB g = true) (hn : g.1.length = n) :
    Calls Try.prog 19 #[.agg #[s0, s1, s2]] w fun e w' => ∃ (X Y : Option Addr) (x y : Nat), e = .returned (.agg #[.slice X n x, .slice Y n y]) ∧ OI 2 w' B (.slice X n x) (wonL g) ∧ Below B w w' := by
  refine (solved s0 s1 s2 g w B hB hag hp).mono ?_
  rintro e w' ⟨v0, v1, plan, rfl, hv0, hv1, hp1, hb⟩
  obtain ⟨X, x, e⟩ := hv0.form
  subst e
  obtain ⟨Y, y, e⟩ := hv1.form
  subst e
  rw [hp1.1, wonL_len, hn]
  rw [wonL_len, hn] at hv0
  exact ⟨X, Y, x, y, rfl, hv0, hb⟩
end Go.Proofs.Ytblmcmccdeelgaa
