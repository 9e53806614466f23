/- SameArena, SameParity of two that read alike. -/
import Derived.Test.YtngadlpfheakiaaParL
import Derived.Test.YtngadlpfheakiaaHand
import Derived.Test.YtngadlpfheakiaaArena
namespace Go.Proofs.Ytngadlpfheakiaa
open Go.RowKit

set_option maxHeartbeats 400000 in
theorem l1SameL (A B : Option Addr) (n m c d : Nat) (xs ys : List Int) (w : World) (ha : RI w A n c xs) (hb : RI w B m d ys) :
    Calls Try.prog 55 #[.slice A n c, .slice B m d] w fun e w' => e = .returned (.bool (eqL xs ys)) ∧ Qt w w' := by
  have b1 := ha.cap; have b2 := ha.top; have b3 := hb.cap; have b4 := hb.top
  by_cases hnm : n = m
  · subst hnm
    have hnn : ((n : Int) != (n : Int)) = false := by simp
    go_enter Try.func55, Try.ntmps55
    go_wp2
    go_loopw [5] (fun i wr => ∃ k : Nat, k ≤ n ∧ i = .int .i64 k ∧ (∀ j, j < k → gi xs j = gi ys j) ∧ ∃ q, wr = w.drewN q) (fun i _ => n - (intOf i).toNat)
    case atStart => exact ⟨0, Nat.zero_le _, rfl, by omega, 0, rfl⟩
    case round =>
      obtain ⟨k, hk, rfl, hall, q, rfl⟩ := hrel
      by_cases hlt : k < n
      · obtain ⟨b, off, rfl, hc1⟩ := ha.at_ hlt
        obtain ⟨b', off', rfl, hc2⟩ := hb.at_ hlt
        have hki : (k : Int) < (n : Int) := by omega
        have hk0 : (0 : Int) ≤ (k : Int) := by omega
        by_cases he : gi xs k = gi ys k
        · have H := Lib.hid he
          have hne : (gi xs k != gi ys k) = false := by simp [he]
          clear he
          go_wp2
          go_quiet (fail)
          go_wp2
          go_roundw
          case rel => exact ⟨k + 1, by omega, by go_num, all_succ hall H.out, _, rfl⟩
          case measure => simp [intOf]; omega
        · have H := Lib.hid he
          have hne : (gi xs k != gi ys k) = true := by simp [he]
          clear he
          go_wp2
          go_quiet (fail)
          go_wp2
          go_ret
          exact ⟨ret_b (eqL_ne H.out).symm, Qt.drew2 _ _⟩
      · go_wp2
        go_ret
        obtain rfl : k = n := by omega
        exact ⟨ret_b (eqL_of ha.1 hb.1 hall).symm, _, rfl⟩
  · have hnn : ((n : Int) != (m : Int)) = true := by simp; omega
    have H := Lib.hid hnm
    clear hnm
    go_enter Try.func55, Try.ntmps55
    go_wp2
    go_ret
    exact ⟨ret_b (eqL_len (by rw [ha.1, hb.1]; exact H.out)).symm, Qt.refl _⟩



set_option maxRecDepth 100000 in
set_option maxHeartbeats 1600000 in
theorem sameArena (s0 s1 t0 t1 : Value) (z : ArD) (w : World) (B : Nat) (hB : B ≤ w.heap.size) (ha : RAv w s0 s1 z.1 z.2) (hb : RAv w t0 t1 z.1 z.2) (har : arB z.1 z.2 = true) :
    Calls Try.prog 22 #[.agg #[s0, s1], .agg #[t0, t1]] w fun e w' => e = .returned (.bool true) ∧ Below B w w' := by
  obtain ⟨A0, n0, c0, A1, n1, c1, rfl, rfl⟩ := ha.form
  obtain ⟨B0, m0, d0, B1, m1, d1, rfl, rfl⟩ := hb.form
  have hr := ha.ri; have hrr := ha.rii; have kr := hb.ri; have krr := hb.rii
  obtain rfl : m0 = n0 := by rw [← kr.len, hr.len]
  obtain rfl : m1 = n1 := by rw [← krr.len, hrr.len]
  have b1 := hrr.cap; have b2 := hrr.top
  have HAR := Lib.hid har
  have hn1 : m1 ≤ 256 := by have h := fineAr_of har; have h1 := h.2.1; have h2 := h.2.2.1; rw [hrr.len] at h2; omega
  have hba : Below w.heap.size w ((w.alloc (.cells #[.slice A0 m0 c0, .slice A1 m1 c1] 30)).alloc (.cells #[.slice B0 m0 d0, .slice B1 m1 d1] 30)) := below_alloc (Nat.le_refl _) (below_alloc (Nat.le_refl _) (Below.refl _ _))
  have bx := (Box.new w 30 #[.slice A0 m0 c0, .slice A1 m1 c1]).alloc (.cells #[.slice B0 m0 d0, .slice B1 m1 d1] 30)
  have bl : Box ((w.alloc (.cells #[.slice A0 m0 c0, .slice A1 m1 c1] 30)).alloc (.cells #[.slice B0 m0 d0, .slice B1 m1 d1] 30)) (w.heap.size + 1) 30 #[.slice B0 m0 d0, .slice B1 m1 d1] := Box.new' (by simp)
  have q0 := bx.d0; have q1 := bx.d1; have p0 := bl.d0; have p1 := bl.d1
  clear har
  go_enter Try.func22, Try.ntmps22
  go_wp2_with fail
  refine (specArenaOk _ _ _ _ _ _ z.1 z.2 _ _ (Nat.le_refl _) (hr.keep (keeps_below hba)) (hrr.keep (keeps_below hba))).mono ?_; rintro e w1 ⟨rfl, hb1⟩
  rw [HAR.out]
  have hw1 := below_then hb1 hba.size hba
  replace bx := bx.below hb1 bx.lt; replace bl := bl.below hb1 bl.lt
  clear q0 q1 p0 p1 hb1 hba
  have q0 := bx.d0; have q1 := bx.d1; have p0 := bl.d0; have p1 := bl.d1
  go_wp2_with fail
  refine (specArenaOk _ _ _ _ _ _ z.1 z.2 _ _ (Nat.le_refl _) (kr.keep (keeps_below hw1)) (krr.keep (keeps_below hw1))).mono ?_; rintro e w2 ⟨rfl, hb2⟩
  rw [HAR.out]
  have hw2 := below_then hb2 hw1.size hw1
  replace bx := bx.below hb2 bx.lt; replace bl := bl.below hb2 bl.lt
  clear q0 q1 p0 p1 hb2
  have q0 := bx.d0; have q1 := bx.d1; have p0 := bl.d0; have p1 := bl.d1
  go_wp2_with fail
  refine (l1SameL _ _ _ _ _ _ z.1 z.1 _ (hr.keep (keeps_below hw2)) (kr.keep (keeps_below hw2))).mono ?_; rintro e w3 ⟨rfl, qq⟩
  rw [eqL_self]
  have hb3 := below_qt qq (Below.refl w2.heap.size w2)
  have hw3 := below_then hb3 hw2.size hw2
  replace bx := bx.below hb3 bx.lt; replace bl := bl.below hb3 bl.lt
  clear q0 q1 p0 p1 hb3 qq
  go_wp2
  go_loopw [5] (fun i wr => ∃ k : Nat, k ≤ m1 ∧ i = .int .i64 k ∧ Below w3.heap.size w3 wr) (fun i _ => m1 - (intOf i).toNat)
  case atStart => exact ⟨0, Nat.zero_le _, rfl, Below.refl _ _⟩
  case round =>
    obtain ⟨k, hk, rfl, hbr⟩ := hrel
    have bxr := bx.below hbr bx.lt
    have blr := bl.below hbr bl.lt
    have hwr := below_then hbr hw3.size hw3
    have q0 := bxr.d0; have q1 := bxr.d1; have p0 := blr.d0; have p1 := blr.d1
    by_cases hlt : k < m1
    · obtain ⟨bn, on, An, nn, cn, rfl, hcN, rn⟩ := hrr.at_ hlt
      obtain ⟨bm, om, Am, nm, cm, rfl, hcM, rm⟩ := krr.at_ hlt
      have hcn := keeps_below hwr _ _ hcN
      have hcm := keeps_below hwr _ _ hcM
      have hki : (k : Int) < (m1 : Int) := by omega
      have hk0 : (0 : Int) ≤ (k : Int) := by omega
      go_wp2_with fail
      refine wp_region_held_drew (S := fun w' => w'.cell? ⟨w.heap.size, 1, none⟩ = some (.slice (some ⟨bn, on, none⟩) m1 c1) ∧ w'.cell? ⟨w.heap.size + 1, 1, none⟩ = some (.slice (some ⟨bm, om, none⟩) m1 d1) ∧ w'.cell? ⟨bn, on + k, none⟩ = some (.slice An nn cn) ∧ w'.cell? ⟨bm, om + k, none⟩ = some (.slice Am nm cm)) (by kernel_rfl) (⟨q1, p1, hcn, hcm⟩) (fun hHeld => ?_)
      refine takeH0 (v := ?_) (by kernel_rfl) (by kernel_rfl) (by kernel_rfl) (fun _ _ _ h => h) hHeld (by rfl) ?_ ?_
      rotate_left; · (intro w hSw; (try dsimp only at hSw); go_simp; try with_reducible rfl)
      try simp only [Act.put, List.setIfInBounds_toArray, List.set_cons_zero, List.set_cons_succ]
      refine takeH1 (v := ?_) (by kernel_rfl) (by kernel_rfl) (by kernel_rfl) (fun _ _ _ h => h) hHeld (by rfl) ?_ ?_
      rotate_left; · (intro w hSw; (try dsimp only at hSw); go_simp; try with_reducible rfl)
      try simp only [Act.put, List.setIfInBounds_toArray, List.set_cons_zero, List.set_cons_succ]
      refine takeH2 (v := ?_) (by kernel_rfl) (by kernel_rfl) (by kernel_rfl) (fun _ _ _ h => h) hHeld (by rfl) ?_ ?_
      rotate_left; · (intro w hSw; (try dsimp only at hSw); go_simp; try with_reducible rfl)
      try simp only [Act.put, List.setIfInBounds_toArray, List.set_cons_zero, List.set_cons_succ]
      refine takeH3 (v := ?_) (by kernel_rfl) (by kernel_rfl) (by kernel_rfl) (fun _ _ _ h => h) hHeld (by rfl) ?_ ?_
      rotate_left; · (intro w hSw; (try dsimp only at hSw); go_simp; try with_reducible rfl)
      try simp only [Act.put, List.setIfInBounds_toArray, List.set_cons_zero, List.set_cons_succ]
      refine takeH4 (v := ?_) (by kernel_rfl) (by kernel_rfl) (by kernel_rfl) (fun _ _ _ h => h) hHeld (by rfl) ?_ ?_
      rotate_left; · (intro w hSw; (try dsimp only at hSw); go_simp; try with_reducible rfl)
      try simp only [Act.put, List.setIfInBounds_toArray, List.set_cons_zero, List.set_cons_succ]
      refine takeH5 (v := ?_) (by kernel_rfl) (by kernel_rfl) (by kernel_rfl) (fun _ _ _ h => h) hHeld (by rfl) ?_ ?_
      rotate_left; · (intro w hSw; (try dsimp only at hSw); go_simp; try with_reducible rfl)
      try simp only [Act.put, List.setIfInBounds_toArray, List.set_cons_zero, List.set_cons_succ]
      refine takeH6 (v := ?_) (by kernel_rfl) (by kernel_rfl) (by kernel_rfl) (fun _ _ _ h => h) hHeld (by rfl) ?_ ?_
      rotate_left; · (intro w hSw; (try dsimp only at hSw); go_simp; try with_reducible rfl)
      try simp only [Act.put, List.setIfInBounds_toArray, List.set_cons_zero, List.set_cons_succ]
      refine takeH7 (v := ?_) (by kernel_rfl) (by kernel_rfl) (by kernel_rfl) (fun _ _ _ h => h) hHeld (by rfl) ?_ ?_
      rotate_left; · (intro w hSw; (try dsimp only at hSw); go_simp; try with_reducible rfl)
      try simp only [Act.put, List.setIfInBounds_toArray, List.set_cons_zero, List.set_cons_succ]
      refine takeH8 (v := ?_) (by kernel_rfl) (by kernel_rfl) (by kernel_rfl) (fun _ _ _ h => h) hHeld (by rfl) ?_ ?_
      rotate_left; · (intro w hSw; (try dsimp only at hSw); go_simp; try with_reducible rfl)
      try simp only [Act.put, List.setIfInBounds_toArray, List.set_cons_zero, List.set_cons_succ]
      refine takeH9 (v := ?_) (by kernel_rfl) (by kernel_rfl) (by kernel_rfl) (fun _ _ _ h => h) hHeld (by rfl) ?_ ?_
      rotate_left; · (intro w hSw; (try dsimp only at hSw); go_simp; try with_reducible rfl)
      try simp only [Act.put, List.setIfInBounds_toArray, List.set_cons_zero, List.set_cons_succ]
      refine callH10 (by kernel_rfl) (fun K hK => ?_)
      go_simp
      go_at_call 55
      refine (l1SameL _ _ _ _ _ _ (gl z.2 k) (gl z.2 k) _ (rn.keep (keeps_below (Below.drew hwr))) (rm.keep (keeps_below (Below.drew hwr)))).mono ?_; rintro e wh ⟨rfl, qh⟩
      rw [eqL_self]
      have hbh := below_qt qh (Below.drew (Below.refl wr.heap.size wr))
      have bxh := bxr.below hbh bxr.lt
      have blh := blr.below hbh blr.lt
      have h1 := keeps_below hbh _ _ hcn
      have h2 := keeps_below hbh _ _ hcm
      go_wp2_with fail
      refine hK.out _ _ (⟨bxh.d1, blh.d1, h1, h2⟩) (fun hHeld => ?_)
      clear hK K
      try simp only [Act.put, List.setIfInBounds_toArray, List.set_cons_zero, List.set_cons_succ]
      refine takeH11 (v := ?_) (by kernel_rfl) (by kernel_rfl) (by kernel_rfl) (fun _ _ _ h => h) hHeld (by rfl) ?_ ?_
      rotate_left; · (intro w hSw; (try dsimp only at hSw); go_simp; try with_reducible rfl)
      try simp only [Act.put, List.setIfInBounds_toArray, List.set_cons_zero, List.set_cons_succ]
      refine wpAnyH_done (by kernel_rfl) ?_ _
      go_wp2
      go_roundw
      case rel => exact ⟨k + 1, by omega, by go_num, below_then hbh hbr.size hbr⟩
      case measure => simp [intOf]; omega
    · obtain rfl : k = m1 := by omega
      go_wp2
      go_ret
      exact ⟨rfl, hwr.mono hB⟩

set_option maxRecDepth 100000 in
set_option maxHeartbeats 1600000 in
theorem sameParity (s0 s1 s2 t0 t1 t2 : Value) (g : ParD) (w : World) (B : Nat) (hB : B ≤ w.heap.size) (ha : RPv w s0 s1 s2 g) (hb : RPv w t0 t1 t2 g) (hpar : parB g = true) :
    Calls Try.prog 14 #[.agg #[s0, s1, s2], .agg #[t0, t1, t2]] w fun e w' => e = .returned (.bool true) ∧ Below B w w' := by
  have har := parB_parts hpar
  have ha' := ha; have hb' := hb
  obtain ⟨A0, n0, c0, A1, n1, c1, A2, n2, c2, rfl, rfl, rfl⟩ := ha'.form
  obtain ⟨B0, m0, d0, B1, m1, d1, B2, m2, d2, rfl, rfl, rfl⟩ := hb'.form
  have hrp := ha.rp; have krp := hb.rp
  have HAR := Lib.hid har; have HPB := Lib.hid hpar
  have hba : Below w.heap.size w ((w.alloc (.cells #[.slice A0 n0 c0, .slice A1 n1 c1, .slice A2 n2 c2] 32)).alloc (.cells #[.slice B0 m0 d0, .slice B1 m1 d1, .slice B2 m2 d2] 32)) := below_alloc (Nat.le_refl _) (below_alloc (Nat.le_refl _) (Below.refl _ _))
  have bx := (Box.new w 32 #[.slice A0 n0 c0, .slice A1 n1 c1, .slice A2 n2 c2]).alloc (.cells #[.slice B0 m0 d0, .slice B1 m1 d1, .slice B2 m2 d2] 32)
  have bl : Box ((w.alloc (.cells #[.slice A0 n0 c0, .slice A1 n1 c1, .slice A2 n2 c2] 32)).alloc (.cells #[.slice B0 m0 d0, .slice B1 m1 d1, .slice B2 m2 d2] 32)) (w.heap.size + 1) 32 #[.slice B0 m0 d0, .slice B1 m1 d1, .slice B2 m2 d2] := Box.new' (by simp)
  have q0 := bx.cell 0; have q1 := bx.cell 1; have q2 := bx.cell 2; have p0 := bl.cell 0; have p1 := bl.cell 1; have p2 := bl.cell 2
  simp only [List.getElem?_toArray, List.getElem?_cons_zero, List.getElem?_cons_succ] at q0 q1 q2 p0 p1 p2
  clear har hpar ha' hb'
  go_enter Try.func14, Try.ntmps14
  go_wp2_with fail
  refine (specParityOk _ _ _ g _ _ (Nat.le_refl _) (ha.keep (keeps_below hba))).mono ?_; rintro e w1 ⟨rfl, hb1⟩
  rw [HPB.out]
  have hw1 := below_then hb1 hba.size hba
  replace bx := bx.below hb1 bx.lt; replace bl := bl.below hb1 bl.lt
  clear q0 q1 q2 p0 p1 p2
  have q0 := bx.cell 0; have q1 := bx.cell 1; have q2 := bx.cell 2; have p0 := bl.cell 0; have p1 := bl.cell 1; have p2 := bl.cell 2
  simp only [List.getElem?_toArray, List.getElem?_cons_zero, List.getElem?_cons_succ] at q0 q1 q2 p0 p1 p2
  go_wp2_with fail
  refine (specParityOk _ _ _ g _ _ (Nat.le_refl _) (hb.keep (keeps_below hw1))).mono ?_; rintro e w2 ⟨rfl, hb2⟩
  rw [HPB.out]
  have hw2 := below_then hb2 hw1.size hw1
  replace bx := bx.below hb2 bx.lt; replace bl := bl.below hb2 bl.lt
  clear q0 q1 q2 p0 p1 p2
  have q0 := bx.cell 0; have q1 := bx.cell 1; have q2 := bx.cell 2; have p0 := bl.cell 0; have p1 := bl.cell 1; have p2 := bl.cell 2
  simp only [List.getElem?_toArray, List.getElem?_cons_zero, List.getElem?_cons_succ] at q0 q1 q2 p0 p1 p2
  go_wp2_with fail
  refine (sameArena _ _ _ _ (g.1, g.2.1) _ _ (Nat.le_refl _) (ha.1.keep (keeps_below hw2)) (hb.1.keep (keeps_below hw2)) HAR.out).mono ?_; rintro e w3 ⟨rfl, hb3⟩
  skip
  have hw3 := below_then hb3 hw2.size hw2
  replace bx := bx.below hb3 bx.lt; replace bl := bl.below hb3 bl.lt
  clear q0 q1 q2 p0 p1 p2
  have q0 := bx.cell 0; have q1 := bx.cell 1; have q2 := bx.cell 2; have p0 := bl.cell 0; have p1 := bl.cell 1; have p2 := bl.cell 2
  simp only [List.getElem?_toArray, List.getElem?_cons_zero, List.getElem?_cons_succ] at q0 q1 q2 p0 p1 p2
  go_wp2_with fail
  refine (l1SameL _ _ _ _ _ _ g.2.2 g.2.2 _ (hrp.keep (keeps_below hw3)) (krp.keep (keeps_below hw3))).mono ?_; rintro e w4 ⟨rfl, qq4⟩
  have hb4 := below_qt qq4 (Below.refl w3.heap.size w3)
  rw [eqL_self]
  have hw4 := below_then hb4 hw3.size hw3
  replace bx := bx.below hb4 bx.lt; replace bl := bl.below hb4 bl.lt
  clear q0 q1 q2 p0 p1 p2
  have q0 := bx.cell 0; have q1 := bx.cell 1; have q2 := bx.cell 2; have p0 := bl.cell 0; have p1 := bl.cell 1; have p2 := bl.cell 2
  simp only [List.getElem?_toArray, List.getElem?_cons_zero, List.getElem?_cons_succ] at q0 q1 q2 p0 p1 p2
  go_wp2
  go_ret
  exact ⟨rfl, hw4.mono hB⟩
end Go.Proofs.Ytngadlpfheakiaa
