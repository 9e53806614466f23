/- FnPathsFrom: for every input the law returns true, and the argument reads as it read before. No condition. -/
import Derived.Test.YtjjaolndencplaaGreatBn7
import Derived.Deep.DeepCutAuto
namespace Go.Proofs.YtjjaolndencplaaGreat.fnPathsFrom
open Go.ChangeShapes Go.WideShapes Go.ChangeAt Go.RowKit

theorem twoH_3_12 {P : Program} {Q : Exit → Act → World → Prop} {md : Region.Mode} {S : World → Prop} {fuel : Nat} {listed : Array Bool} {a : Act} {w : World} {o0 o1 o2 o3 o4 o5 o6 o7 o8 o9 o10 o11 o12 : Oper} {r : List Oper} (hr : Region.ready md (List.toArray (o0 :: o1 :: o2 :: o3 :: o4 :: o5 :: o6 :: o7 :: o8 :: o9 :: o10 :: o11 :: o12 :: r)) listed = [3, 12])
    (h1 : ∀ K' : Act → World → Prop, Go.Shut (∀ a w, S w → (S w → wpAnyH P md (List.toArray (o0 :: o1 :: o2 :: o3 :: o4 :: o5 :: o6 :: o7 :: o8 :: o9 :: o10 :: o11 :: o12 :: r)) Q S fuel (listed.setIfInBounds 3 true) a w) → K' a w) → if Region.wanted o3 (yielded (List.toArray (o0 :: o1 :: o2 :: o3 :: o4 :: o5 :: o6 :: o7 :: o8 :: o9 :: o10 :: o11 :: o12 :: r)) a.tmps) = true then Oper.wp P o3 a w K' Q else K' (a.put o3.dst undef) w) (h2 : ∀ K' : Act → World → Prop, Go.Shut (∀ a w, S w → (S w → wpAnyH P md (List.toArray (o0 :: o1 :: o2 :: o3 :: o4 :: o5 :: o6 :: o7 :: o8 :: o9 :: o10 :: o11 :: o12 :: r)) Q S fuel (listed.setIfInBounds 12 true) a w) → K' a w) → if Region.wanted o12 (yielded (List.toArray (o0 :: o1 :: o2 :: o3 :: o4 :: o5 :: o6 :: o7 :: o8 :: o9 :: o10 :: o11 :: o12 :: r)) a.tmps) = true then Oper.wp P o12 a w K' Q else K' (a.put o12.dst undef) w) : wpAnyH P md (List.toArray (o0 :: o1 :: o2 :: o3 :: o4 :: o5 :: o6 :: o7 :: o8 :: o9 :: o10 :: o11 :: o12 :: r)) Q S (fuel + 1) listed a w :=
  wpAnyH_ready (rs := [3, 12]) hr (by simp) (AllReadyH.cons rfl h1 (AllReadyH.cons rfl h2 AllReadyH.nil))
theorem twoH_6_12 {P : Program} {Q : Exit → Act → World → Prop} {md : Region.Mode} {S : World → Prop} {fuel : Nat} {listed : Array Bool} {a : Act} {w : World} {o0 o1 o2 o3 o4 o5 o6 o7 o8 o9 o10 o11 o12 : Oper} {r : List Oper} (hr : Region.ready md (List.toArray (o0 :: o1 :: o2 :: o3 :: o4 :: o5 :: o6 :: o7 :: o8 :: o9 :: o10 :: o11 :: o12 :: r)) listed = [6, 12])
    (h1 : ∀ K' : Act → World → Prop, Go.Shut (∀ a w, S w → (S w → wpAnyH P md (List.toArray (o0 :: o1 :: o2 :: o3 :: o4 :: o5 :: o6 :: o7 :: o8 :: o9 :: o10 :: o11 :: o12 :: r)) Q S fuel (listed.setIfInBounds 6 true) a w) → K' a w) → if Region.wanted o6 (yielded (List.toArray (o0 :: o1 :: o2 :: o3 :: o4 :: o5 :: o6 :: o7 :: o8 :: o9 :: o10 :: o11 :: o12 :: r)) a.tmps) = true then Oper.wp P o6 a w K' Q else K' (a.put o6.dst undef) w) (h2 : ∀ K' : Act → World → Prop, Go.Shut (∀ a w, S w → (S w → wpAnyH P md (List.toArray (o0 :: o1 :: o2 :: o3 :: o4 :: o5 :: o6 :: o7 :: o8 :: o9 :: o10 :: o11 :: o12 :: r)) Q S fuel (listed.setIfInBounds 12 true) a w) → K' a w) → if Region.wanted o12 (yielded (List.toArray (o0 :: o1 :: o2 :: o3 :: o4 :: o5 :: o6 :: o7 :: o8 :: o9 :: o10 :: o11 :: o12 :: r)) a.tmps) = true then Oper.wp P o12 a w K' Q else K' (a.put o12.dst undef) w) : wpAnyH P md (List.toArray (o0 :: o1 :: o2 :: o3 :: o4 :: o5 :: o6 :: o7 :: o8 :: o9 :: o10 :: o11 :: o12 :: r)) Q S (fuel + 1) listed a w :=
  wpAnyH_ready (rs := [6, 12]) hr (by simp) (AllReadyH.cons rfl h1 (AllReadyH.cons rfl h2 AllReadyH.nil))
theorem twoH_8_12 {P : Program} {Q : Exit → Act → World → Prop} {md : Region.Mode} {S : World → Prop} {fuel : Nat} {listed : Array Bool} {a : Act} {w : World} {o0 o1 o2 o3 o4 o5 o6 o7 o8 o9 o10 o11 o12 : Oper} {r : List Oper} (hr : Region.ready md (List.toArray (o0 :: o1 :: o2 :: o3 :: o4 :: o5 :: o6 :: o7 :: o8 :: o9 :: o10 :: o11 :: o12 :: r)) listed = [8, 12])
    (h1 : ∀ K' : Act → World → Prop, Go.Shut (∀ a w, S w → (S w → wpAnyH P md (List.toArray (o0 :: o1 :: o2 :: o3 :: o4 :: o5 :: o6 :: o7 :: o8 :: o9 :: o10 :: o11 :: o12 :: r)) Q S fuel (listed.setIfInBounds 8 true) a w) → K' a w) → if Region.wanted o8 (yielded (List.toArray (o0 :: o1 :: o2 :: o3 :: o4 :: o5 :: o6 :: o7 :: o8 :: o9 :: o10 :: o11 :: o12 :: r)) a.tmps) = true then Oper.wp P o8 a w K' Q else K' (a.put o8.dst undef) w) (h2 : ∀ K' : Act → World → Prop, Go.Shut (∀ a w, S w → (S w → wpAnyH P md (List.toArray (o0 :: o1 :: o2 :: o3 :: o4 :: o5 :: o6 :: o7 :: o8 :: o9 :: o10 :: o11 :: o12 :: r)) Q S fuel (listed.setIfInBounds 12 true) a w) → K' a w) → if Region.wanted o12 (yielded (List.toArray (o0 :: o1 :: o2 :: o3 :: o4 :: o5 :: o6 :: o7 :: o8 :: o9 :: o10 :: o11 :: o12 :: r)) a.tmps) = true then Oper.wp P o12 a w K' Q else K' (a.put o12.dst undef) w) : wpAnyH P md (List.toArray (o0 :: o1 :: o2 :: o3 :: o4 :: o5 :: o6 :: o7 :: o8 :: o9 :: o10 :: o11 :: o12 :: r)) Q S (fuel + 1) listed a w :=
  wpAnyH_ready (rs := [8, 12]) hr (by simp) (AllReadyH.cons rfl h1 (AllReadyH.cons rfl h2 AllReadyH.nil))
theorem chg2 (w : World) (b : Nat) (x0 x1 : Value) : Chg (fun x => x = b) w ((w.setCell ⟨b, 0, none⟩ x0).setCell ⟨b, 1, none⟩ x1) :=
  (Chg.set (w := w) ⟨b, 0, none⟩ x0).trans (Chg.set ⟨b, 1, none⟩ x1) (U := fun x => x = b) (fun _ h => h) (fun _ h => h)
set_option maxRecDepth 100000 in
set_option maxHeartbeats 3200000 in
theorem walk (A : Option Addr) (n c : Nat) (l : List Int) (w : World) (hy : RY w A n c l) :
    Calls Tryz.prog 3 #[.slice A n c] w fun e w' => e = .returned (.bool true) ∧ Below w.heap.size w w' := by
  have b1 := hy.cap; have b2 := hy.top
  by_cases hb : 4096 < n
  · have E := Lib.hid (show decide (4096 < n) = true from decide_eq_true hb)
    go_enter Tryz.func3, Tryz.ntmps3
    go_wp2_with fail
    refine (big _ _ _ _ _ hy).mono ?_; rintro e w1 ⟨rfl, q1⟩
    rw [E.out]
    go_wp2
    go_ret
    exact ⟨rfl, below_qt q1 (Below.refl _ _)⟩
  have E := Lib.hid (show decide (4096 < n) = false from decide_eq_false hb)
  have hn : n ≤ 4096 := by omega
  clear hb
  go_enter Tryz.func3, Tryz.ntmps3
  go_wp2_with fail
  refine (big _ _ _ _ _ hy).mono ?_; rintro e w1 ⟨rfl, q1⟩
  rw [E.out]
  have hw1 := below_qt q1 (Below.refl w.heap.size w)
  have sz1 := hw1.size
  go_wp2_with fail
  refine (roll A n c l _ _ (hy.keep (keeps_below hw1)) hn).mono ?_; rintro e w2 ⟨b, rfl, hd2⟩
  have hw2 := below_then hd2.bel sz1 hw1
  have lo2 := hd2.lo
  have up2 := hd2.lt
  go_wp2_with fail
  refine (w6Arena _ _ b 7 hd2 (by omega) (by omega)).mono ?_; rintro e w3 ⟨s0, s1, z, rfl, ⟨har, hzl⟩, ho3, hd3, hc3⟩
  obtain ⟨A0, c0, A1, c1, rfl, rfl⟩ := ho3.form
  have hw3 : Below w.heap.size w w3 := hw2.trans (hc3.below (by have := hw2.size; omega) (fun x hx => by have h3 : x = b := hx; omega))
  have sz3 := hc3.size
  have hbA : Below w3.heap.size w3 (w3.alloc (.cells #[.slice A0 z.1.length c0, .slice A1 z.2.length c1] 30)) := below_alloc (Nat.le_refl _) (Below.refl _ _)
  have bx := Box.new w3 30 #[.slice A0 z.1.length c0, .slice A1 z.2.length c1]
  have hwA := below_then hbA hw3.size hw3
  have hF := fineAr_of har
  have HAR := Lib.hid har
  have HF := Lib.hid hF
  have hz8 : z.1.length ≤ 7 := by omega
  have hz1 : 1 ≤ z.1.length := hF.1
  have hbl := hd3.lt
  have hdA := hd3.on hbA
  have ho3A := ho3.below hbA
  have a0 := bx.d0; have a1 := bx.d1
  clear har hF hzl hd3 hc3 hd2
  go_wp2_with fail
  refine (w6Pairs _ _ b (z.1.length : Int) 3 hdA (by omega) (by omega) (by omega) (by omega)).mono ?_; rintro e w4 ⟨v, ps, rfl, ⟨hpl, hps⟩, hoP, hd4, hc4⟩
  obtain ⟨AP, cP, rfl⟩ := hoP.form
  have hpl4 : ps.length ≤ 4 := by omega
  have HPO := Lib.hid (show pairsB ps (z.1.length : Int) = true from pairsB_of rfl hpl4 (fun i hi => by rw [(hps i hi).1, (hps i hi).2]; rfl))
  have hw4 : Below w.heap.size w w4 := hwA.trans (hc4.below hwA.size (fun x hx => by have h3 : x = b := hx; have := hw2.size; omega))
  have L4 : LS w1 w4 b w2.heap.size w3.heap.size A0 A1 c0 c1 z AP cP ps none 0 [] none 0 [] := by
    have h2 : w2.heap.size ≤ w3.heap.size := sz3
    exact ⟨hd4, ⟨by omega, by omega⟩, (hc4.block _ bx.lt (fun e => by have h3 : w3.heap.size = b := e; omega)).trans bx, ho3A.chg hc4 (fun y hy => by have h3 : y = b := hy; omega), hoP.more (by have := hbA.size; omega), OI.nil _ _ _, OI.nil _ _ _⟩
  have hz4 : w2.heap.size ≤ w4.heap.size := Nat.le_trans sz3 (Nat.le_trans hbA.size hc4.size)
  clear hpl hps hoP hd4 hc4 hdA ho3A ho3 bx hbA hwA a0 a1
  have a0 := L4.bA.d0; have a1 := L4.bA.d1
  go_wp2_with fail
  refine (w6Copy _ _ z _ _ (Nat.le_refl _) L4.ho4.reads HF.out).mono ?_; rintro e w5 ⟨t0, t1, rfl, hoc, hb5⟩
  have L5 := L4.on hb5
  have hz5 : w2.heap.size ≤ w5.heap.size := Nat.le_trans hz4 hb5.size
  have hw5 := below_then hb5 hw4.size hw4
  clear a0 a1
  have a0 := L5.bA.d0; have a1 := L5.bA.d1
  go_wp2_with fail
  refine (implBreaksFromV t0 t1 z _ _ _ ps _ _ (Nat.le_refl _) hoc.reads L5.hoP.reads).mono ?_; rintro e w6 ⟨v, rfl, hoB, hb6⟩
  obtain ⟨AB, cB, rfl⟩ := hoB.form
  have L6 : LS w1 w6 b w2.heap.size w3.heap.size A0 A1 c0 c1 z AP cP ps AB cB (brkR z ps) none 0 [] := { L5.on hb6 with oB := hoB.more hz5 }
  have hw6 := below_then hb6 hw5.size hw5
  have hb6s := hb6.size
  clear a0 a1 hoB hb5 hb6 hoc L4 L5
  have a0 := L6.bA.d0; have a1 := L6.bA.d1
  go_wp2_with fail
  refine (w6Copy _ _ z _ _ (Nat.le_refl _) L6.ho4.reads HF.out).mono ?_; rintro e w7 ⟨t2, t3, rfl, hoc, hb7⟩
  have hz7 : w2.heap.size ≤ w7.heap.size := Nat.le_trans hz5 (Nat.le_trans hb6s hb7.size)
  have L7 := L6.on hb7
  have hw7 := below_then hb7 hw6.size hw6
  clear a0 a1
  have a0 := L7.bA.d0; have a1 := L7.bA.d1
  go_wp2_with fail
  refine (implWellFromV t2 t3 z _ _ _ ps _ _ (Nat.le_refl _) hoc.reads L7.hoP.reads).mono ?_; rintro e w8 ⟨v, rfl, hoW, hb8⟩
  obtain ⟨AW, cW, rfl⟩ := hoW.form
  have L8 : LS w1 w8 b w2.heap.size w3.heap.size A0 A1 c0 c1 z AP cP ps AB cB (brkR z ps) AW cW (welR z ps) := { L7.on hb8 with oW := hoW.more hz7 }
  have hw8 := below_then hb8 hw7.size hw7
  clear a0 a1 hoW hb7 hb8 hoc L6 L7
  have a0 := L8.bA.d0; have a1 := L8.bA.d1
  go_wp2_with fail
  refine (below w1 _ b (z.1.length : Int) L8.hd (by omega)).mono ?_; rintro e w9 ⟨vx, rfl, hvx, hd9, hc9⟩
  obtain ⟨vn, rfl⟩ := Int.eq_ofNat_of_zero_le hvx.1
  have hvn : vn < z.1.length := by have := hvx.2; omega
  have L9 := L8.chg hc9 hd9
  have hw9 : Below w.heap.size w w9 := hw8.trans (hc9.below hw8.size (fun x hx => by have h3 : x = b := hx; have := hw2.size; omega))
  clear a0 a1 hd9 hc9 L8 hvx
  have a0 := L9.bA.d0; have a1 := L9.bA.d1
  go_wp2_with fail
  go_upto_region 10 with (fail)
  go_cut [10, 11] (fun u0 u1 wx => Hid (∃ (bl : Nat) (S L : Option Addr) (ms ds ml dl : Nat) (st lp : List Int), u0 = .pointer (some ⟨bl, 0, none⟩) ∧ u1 = .bool true ∧ lasE z.1 z.2 (st, lp) = true ∧ (((brokenL ps lp).length = 0 → hasL (welR z ps) (vn : Int) = true) ∧ (¬ (brokenL ps lp).length = 0 → hasL (brkR z ps) (vn : Int) = true)) ∧ Box wx bl 38 #[.slice S ms ds, .slice L ml dl] ∧ RI wx S ms ds st ∧ RI wx L ml dl lp ∧ LS w1 wx b w2.heap.size w3.heap.size A0 A1 c0 c1 z AP cP ps AB cB (brkR z ps) AW cW (welR z ps) ∧ Below w.heap.size w wx))
  case first =>
    have hwC := Below.drew hw9
    have L := L9.on (Below.drew (Below.refl _ _))
    clear L9 a0 a1
    have a0 := L.bA.d0; have a1 := L.bA.d1
    refine wp_region_held_drew (S := (fun w' => w'.cell? ⟨w3.heap.size, 0, none⟩ = some (.slice A0 z.1.length c0) ∧ w'.cell? ⟨w3.heap.size, 1, none⟩ = some (.slice A1 z.2.length c1))) (by kernel_rfl) ⟨a0, a1⟩ (fun hHeld => ?_)
    generalize w9.drew = wD at *
    refine takeH0 (v := ?_) (by kernel_rfl) (by kernel_rfl) (by kernel_rfl) (fun _ _ _ h => h) hHeld (by rfl) ?_ ?_
    rotate_left; · (intro w hSw; (try dsimp only at hSw); go_simp; try with_reducible rfl)
    try simp only [Act.put, List.setIfInBounds_toArray, List.set_cons_zero, List.set_cons_succ]
    refine takeH1 (v := ?_) (by kernel_rfl) (by kernel_rfl) (by kernel_rfl) (fun _ _ _ h => h) hHeld (by rfl) ?_ ?_
    rotate_left; · (intro w hSw; (try dsimp only at hSw); go_simp; try with_reducible rfl)
    try simp only [Act.put, List.setIfInBounds_toArray, List.set_cons_zero, List.set_cons_succ]
    refine takeH2 (v := ?_) (by kernel_rfl) (by kernel_rfl) (by kernel_rfl) (fun _ _ _ h => h) hHeld (by rfl) ?_ ?_
    rotate_left; · (intro w hSw; (try dsimp only at hSw); go_simp; try with_reducible rfl)
    try simp only [Act.put, List.setIfInBounds_toArray, List.set_cons_zero, List.set_cons_succ]
    refine takeH4 (v := ?_) (by kernel_rfl) (by kernel_rfl) (by kernel_rfl) (fun _ _ _ h => h) hHeld (by rfl) ?_ ?_
    rotate_left; · (intro w hSw; (try dsimp only at hSw); go_simp; try with_reducible rfl)
    try simp only [Act.put, List.setIfInBounds_toArray, List.set_cons_zero, List.set_cons_succ]
    refine takeH5 (v := ?_) (by kernel_rfl) (by kernel_rfl) (by kernel_rfl) (fun _ _ _ h => h) hHeld (by rfl) ?_ ?_
    rotate_left; · (intro w hSw; (try dsimp only at hSw); go_simp; try with_reducible rfl)
    try simp only [Act.put, List.setIfInBounds_toArray, List.set_cons_zero, List.set_cons_succ]
    refine takeH7 (v := ?_) (by kernel_rfl) (by kernel_rfl) (by kernel_rfl) (fun _ _ _ h => h) hHeld (by rfl) ?_ ?_
    rotate_left; · (intro w hSw; (try dsimp only at hSw); go_simp; try with_reducible rfl)
    try simp only [Act.put, List.setIfInBounds_toArray, List.set_cons_zero, List.set_cons_succ]
    refine twoH_3_12 (by kernel_rfl) (fun K hK => ?_) (fun K hK => ?_)
    · go_simp
      go_at_call 13
      refine (w6Plan _ _ z 0 w1 _ b _ L.hd L.ho4 up2 HF.out).mono ?_; rintro e wc0 ⟨vE, pE, rfl, hfE, hoE, hdE, hc⟩
      obtain ⟨AE, kE, rfl⟩ := hoE.form
      have hsE : b < wD.heap.size := L.hd.lt
      have L2 := L.chg hc hdE; clear L; have L := L2; clear L2
      replace hwC := hwC.trans (hc.below hwC.size (fun x hx => by have h3 : x = b := hx; have := hw2.size; omega))
      clear hdE hc
      have HFE := Lib.hid hfE; clear hfE
      have a0 := L.bA.d0; have a1 := L.bA.d1
      go_wp2_with fail
      refine hK.out _ _ (⟨a0, a1⟩) (fun hHeld => ?_)
      clear hK K
      try simp only [Act.put, List.setIfInBounds_toArray, List.set_cons_zero, List.set_cons_succ]
      refine twoH_6_12 (by kernel_rfl) (fun K hK => ?_) (fun K hK => ?_)
      · go_simp
        go_at_call 13
        refine (w6Plan _ _ z 1 w1 _ b _ L.hd L.ho4 up2 HF.out).mono ?_; rintro e wc1 ⟨vD, pD, rfl, hfD, hoD, hdD, hc⟩
        obtain ⟨AD, kD, rfl⟩ := hoD.form
        have hsD : b < wc0.heap.size := L.hd.lt
        have L2 := L.chg hc hdD; clear L; have L := L2; clear L2
        replace hoE := hoE.chg hc (fun y hy e => by have h3 : y = b := e; have := (hoE.lt y hy).1; omega)
        replace hwC := hwC.trans (hc.below hwC.size (fun x hx => by have h3 : x = b := hx; have := hw2.size; omega))
        clear hdD hc
        have HFD := Lib.hid hfD; clear hfD
        have a0 := L.bA.d0; have a1 := L.bA.d1
        go_wp2_with fail
        refine hK.out _ _ (⟨a0, a1⟩) (fun hHeld => ?_)
        clear hK K
        try simp only [Act.put, List.setIfInBounds_toArray, List.set_cons_zero, List.set_cons_succ]
        refine twoH_8_12 (by kernel_rfl) (fun K hK => ?_) (fun K hK => ?_)
        · go_simp
          go_at_call 12
          refine (playOf _ _ _ _ _ _ _ _ _ _ _ _ z.1 z.2 pE pD vn _ _ (Nat.le_refl _) L.ho4.reads.ri L.ho4.reads.rii hoE.reads hoD.reads HF.out HAR.out HFE.out HFD.out hvn).mono ?_; rintro e wc2 ⟨v5, v6, st, lp, rfl, hpl, hlen, ho5, ho6, hbN⟩
          obtain ⟨A5, k5, rfl⟩ := ho5.form; obtain ⟨A6, k6, rfl⟩ := ho6.form
          have L2 := L.on hbN; clear L; have L := L2; clear L2
          replace hwC := below_then hbN hwC.size hwC
          clear hbN hoE hoD
          have HLA := Lib.hid (play_lasso (full_step HF.out HFE.out HFD.out) hvn hpl (by have h1 := hlen.1; have h2 := hlen.2; omega))
          have HPH := Lib.hid (play_has HAR.out HPO.out hvn HFE.out HFD.out hpl); clear hpl
          have a0 := L.bA.d0; have a1 := L.bA.d1
          go_wp2_with fail
          refine hK.out _ _ (⟨a0, a1⟩) (fun hHeld => ?_)
          clear hK K
          try simp only [Act.put, List.setIfInBounds_toArray, List.set_cons_zero, List.set_cons_succ]
          refine takeH9 (v := ?_) (by kernel_rfl) (by kernel_rfl) (by kernel_rfl) (fun _ _ _ h => h) hHeld (by rfl) ?_ ?_
          rotate_left; · (intro w hSw; (try dsimp only at hSw); go_simp; try with_reducible rfl)
          try simp only [Act.put, List.setIfInBounds_toArray, List.set_cons_zero, List.set_cons_succ]
          refine takeH10 (v := ?_) (by kernel_rfl) (by kernel_rfl) (by kernel_rfl) (fun _ _ _ h => h) hHeld (by rfl) ?_ ?_
          rotate_left; · (intro w hSw; (try dsimp only at hSw); go_simp; try with_reducible rfl)
          try simp only [Act.put, List.setIfInBounds_toArray, List.set_cons_zero, List.set_cons_succ]
          refine takeH11 (v := ?_) (by kernel_rfl) (by kernel_rfl) (by kernel_rfl) (fun _ _ _ h => h) hHeld (by rfl) ?_ ?_
          rotate_left; · (intro w hSw; (try dsimp only at hSw); go_simp; try with_reducible rfl)
          try simp only [Act.put, List.setIfInBounds_toArray, List.set_cons_zero, List.set_cons_succ]
          refine callH12 (by kernel_rfl) (fun K hK => ?_)
          go_simp
          refine hK.out _ _ (⟨keepA a0, keepA a1⟩) (fun hHeld => ?_)
          clear hK K
          try simp only [Act.put, List.setIfInBounds_toArray, List.set_cons_zero, List.set_cons_succ]
          have hbA : Below wc2.heap.size wc2 (wc2.alloc (.cells #[.slice none 0 0, .slice none 0 0] 38)) := below_alloc (Nat.le_refl _) (Below.refl _ _)
          have bz : Box (wc2.alloc (.cells #[.slice none 0 0, .slice none 0 0] 38)) wc2.heap.size 38 #[.slice none 0 0, .slice none 0 0] := Box.new _ _ _
          have hlz : b < wc2.heap.size := L.hd.lt
          have hlz3 : w3.heap.size < wc2.heap.size := L.bA.lt
          have L2 := L.on hbA; clear L; have L := L2; clear L2
          replace ho5 := ho5.below hbA
          replace ho6 := ho6.below hbA
          replace hwC := below_then hbA hwC.size hwC
          clear hbA
          generalize (wc2.alloc (.cells #[.slice none 0 0, .slice none 0 0] 38)) = wa3 at *
          generalize wc2.heap.size = bl at *
          have a0 := L.bA.d0; have a1 := L.bA.d1
          have qz0 := bz.d0; have qz1 := bz.d1
          have qh0 := bz.hot 0; have qh1 := bz.hot 1
          refine callH13 (by kernel_rfl) (fun K hK => ?_)
          go_simp
          refine hK.out _ _ (⟨keepS (keepS a0 (by show w3.heap.size ≠ bl; omega)) (by show w3.heap.size ≠ bl; omega), keepS (keepS a1 (by show w3.heap.size ≠ bl; omega)) (by show w3.heap.size ≠ bl; omega)⟩) (fun hHeld => ?_)
          clear hK K
          try simp only [Act.put, List.setIfInBounds_toArray, List.set_cons_zero, List.set_cons_succ]
          refine takeH14 (v := ?_) (by kernel_rfl) (by kernel_rfl) (by kernel_rfl) (fun _ _ _ h => h) hHeld (by rfl) ?_ ?_
          rotate_left; · (intro w hSw; (try dsimp only at hSw); go_simp; try with_reducible rfl)
          try simp only [Act.put, List.setIfInBounds_toArray, List.set_cons_zero, List.set_cons_succ]
          refine wpAnyH_done (by kernel_rfl) ?_ _
          go_wp2_with fail; go_meet
          refine Lib.hid ⟨bl, _, _, _, _, _, _, st, lp, rfl, rfl, HLA.out, HPH.out, bz.set2 _ _, (ho5.chgBox bz nel (chg2 _ _ _ _)).reads, (ho6.chgBox bz nel (chg2 _ _ _ _)).reads, L.box bz (by show w3.heap.size ≠ bl; omega) (by omega) (chg2 _ _ _ _), hwC.trans ((chg2 _ _ _ _).below hwC.size (fun x hx => by have h3 : x = bl := hx; have := hw3.size; omega))⟩
        · go_simp
          refine hK.out _ _ (⟨keepA a0, keepA a1⟩) (fun hHeld => ?_)
          clear hK K
          try simp only [Act.put, List.setIfInBounds_toArray, List.set_cons_zero, List.set_cons_succ]
          have hbA : Below wc1.heap.size wc1 (wc1.alloc (.cells #[.slice none 0 0, .slice none 0 0] 38)) := below_alloc (Nat.le_refl _) (Below.refl _ _)
          have bz : Box (wc1.alloc (.cells #[.slice none 0 0, .slice none 0 0] 38)) wc1.heap.size 38 #[.slice none 0 0, .slice none 0 0] := Box.new _ _ _
          have hlz : b < wc1.heap.size := L.hd.lt
          have hlz3 : w3.heap.size < wc1.heap.size := L.bA.lt
          have L2 := L.on hbA; clear L; have L := L2; clear L2
          replace hoE := hoE.below hbA
          replace hoD := hoD.below hbA
          replace hwC := below_then hbA hwC.size hwC
          clear hbA
          generalize (wc1.alloc (.cells #[.slice none 0 0, .slice none 0 0] 38)) = wa2 at *
          generalize wc1.heap.size = bl at *
          have a0 := L.bA.d0; have a1 := L.bA.d1
          refine callH8 (by kernel_rfl) (fun K hK => ?_)
          go_simp
          go_at_call 12
          refine (playOf _ _ _ _ _ _ _ _ _ _ _ _ z.1 z.2 pE pD vn _ _ (Nat.le_refl _) L.ho4.reads.ri L.ho4.reads.rii hoE.reads hoD.reads HF.out HAR.out HFE.out HFD.out hvn).mono ?_; rintro e wc2a ⟨v5, v6, st, lp, rfl, hpl, hlen, ho5, ho6, hbN⟩
          obtain ⟨A5, k5, rfl⟩ := ho5.form; obtain ⟨A6, k6, rfl⟩ := ho6.form
          have L2 := L.on hbN; clear L; have L := L2; clear L2
          replace bz := bz.on hbN
          replace hwC := below_then hbN hwC.size hwC
          clear hbN hoE hoD
          have HLA := Lib.hid (play_lasso (full_step HF.out HFE.out HFD.out) hvn hpl (by have h1 := hlen.1; have h2 := hlen.2; omega))
          have HPH := Lib.hid (play_has HAR.out HPO.out hvn HFE.out HFD.out hpl); clear hpl
          have a0 := L.bA.d0; have a1 := L.bA.d1
          go_wp2_with fail
          refine hK.out _ _ (⟨a0, a1⟩) (fun hHeld => ?_)
          clear hK K
          try simp only [Act.put, List.setIfInBounds_toArray, List.set_cons_zero, List.set_cons_succ]
          refine takeH9 (v := ?_) (by kernel_rfl) (by kernel_rfl) (by kernel_rfl) (fun _ _ _ h => h) hHeld (by rfl) ?_ ?_
          rotate_left; · (intro w hSw; (try dsimp only at hSw); go_simp; try with_reducible rfl)
          try simp only [Act.put, List.setIfInBounds_toArray, List.set_cons_zero, List.set_cons_succ]
          refine takeH10 (v := ?_) (by kernel_rfl) (by kernel_rfl) (by kernel_rfl) (fun _ _ _ h => h) hHeld (by rfl) ?_ ?_
          rotate_left; · (intro w hSw; (try dsimp only at hSw); go_simp; try with_reducible rfl)
          try simp only [Act.put, List.setIfInBounds_toArray, List.set_cons_zero, List.set_cons_succ]
          refine takeH11 (v := ?_) (by kernel_rfl) (by kernel_rfl) (by kernel_rfl) (fun _ _ _ h => h) hHeld (by rfl) ?_ ?_
          rotate_left; · (intro w hSw; (try dsimp only at hSw); go_simp; try with_reducible rfl)
          try simp only [Act.put, List.setIfInBounds_toArray, List.set_cons_zero, List.set_cons_succ]
          have qz0 := bz.d0; have qz1 := bz.d1
          have qh0 := bz.hot 0; have qh1 := bz.hot 1
          refine callH13 (by kernel_rfl) (fun K hK => ?_)
          go_simp
          refine hK.out _ _ (⟨keepS (keepS a0 (by show w3.heap.size ≠ bl; omega)) (by show w3.heap.size ≠ bl; omega), keepS (keepS a1 (by show w3.heap.size ≠ bl; omega)) (by show w3.heap.size ≠ bl; omega)⟩) (fun hHeld => ?_)
          clear hK K
          try simp only [Act.put, List.setIfInBounds_toArray, List.set_cons_zero, List.set_cons_succ]
          refine takeH14 (v := ?_) (by kernel_rfl) (by kernel_rfl) (by kernel_rfl) (fun _ _ _ h => h) hHeld (by rfl) ?_ ?_
          rotate_left; · (intro w hSw; (try dsimp only at hSw); go_simp; try with_reducible rfl)
          try simp only [Act.put, List.setIfInBounds_toArray, List.set_cons_zero, List.set_cons_succ]
          refine wpAnyH_done (by kernel_rfl) ?_ _
          go_wp2_with fail; go_meet
          refine Lib.hid ⟨bl, _, _, _, _, _, _, st, lp, rfl, rfl, HLA.out, HPH.out, bz.set2 _ _, (ho5.chgBox bz nel (chg2 _ _ _ _)).reads, (ho6.chgBox bz nel (chg2 _ _ _ _)).reads, L.box bz (by show w3.heap.size ≠ bl; omega) (by omega) (chg2 _ _ _ _), hwC.trans ((chg2 _ _ _ _).below hwC.size (fun x hx => by have h3 : x = bl := hx; have := hw3.size; omega))⟩
      · go_simp
        refine hK.out _ _ (⟨keepA a0, keepA a1⟩) (fun hHeld => ?_)
        clear hK K
        try simp only [Act.put, List.setIfInBounds_toArray, List.set_cons_zero, List.set_cons_succ]
        have hbA : Below wc0.heap.size wc0 (wc0.alloc (.cells #[.slice none 0 0, .slice none 0 0] 38)) := below_alloc (Nat.le_refl _) (Below.refl _ _)
        have bz : Box (wc0.alloc (.cells #[.slice none 0 0, .slice none 0 0] 38)) wc0.heap.size 38 #[.slice none 0 0, .slice none 0 0] := Box.new _ _ _
        have hlz : b < wc0.heap.size := L.hd.lt
        have hlz3 : w3.heap.size < wc0.heap.size := L.bA.lt
        have L2 := L.on hbA; clear L; have L := L2; clear L2
        replace hoE := hoE.below hbA
        replace hwC := below_then hbA hwC.size hwC
        clear hbA
        generalize (wc0.alloc (.cells #[.slice none 0 0, .slice none 0 0] 38)) = wa1 at *
        generalize wc0.heap.size = bl at *
        have a0 := L.bA.d0; have a1 := L.bA.d1
        refine callH6 (by kernel_rfl) (fun K hK => ?_)
        go_simp
        go_at_call 13
        refine (w6Plan _ _ z 1 w1 _ b _ L.hd L.ho4 up2 HF.out).mono ?_; rintro e wc1a ⟨vD, pD, rfl, hfD, hoD, hdD, hc⟩
        obtain ⟨AD, kD, rfl⟩ := hoD.form
        have hsD : b < wa1.heap.size := L.hd.lt
        have L2 := L.chg hc hdD; clear L; have L := L2; clear L2
        replace hoE := hoE.chg hc (fun y hy e => by have h3 : y = b := e; have := (hoE.lt y hy).1; omega)
        have tz : Box _ bl 38 #[.slice none 0 0, .slice none 0 0] := (hc.block _ bz.lt (fun e => by have h3 : bl = b := e; omega)).trans bz; clear bz; have bz := tz; clear tz
        replace hwC := hwC.trans (hc.below hwC.size (fun x hx => by have h3 : x = b := hx; have := hw2.size; omega))
        clear hdD hc
        have HFD := Lib.hid hfD; clear hfD
        have a0 := L.bA.d0; have a1 := L.bA.d1
        go_wp2_with fail
        refine hK.out _ _ (⟨a0, a1⟩) (fun hHeld => ?_)
        clear hK K
        try simp only [Act.put, List.setIfInBounds_toArray, List.set_cons_zero, List.set_cons_succ]
        refine callH8 (by kernel_rfl) (fun K hK => ?_)
        go_simp
        go_at_call 12
        refine (playOf _ _ _ _ _ _ _ _ _ _ _ _ z.1 z.2 pE pD vn _ _ (Nat.le_refl _) L.ho4.reads.ri L.ho4.reads.rii hoE.reads hoD.reads HF.out HAR.out HFE.out HFD.out hvn).mono ?_; rintro e wc2a ⟨v5, v6, st, lp, rfl, hpl, hlen, ho5, ho6, hbN⟩
        obtain ⟨A5, k5, rfl⟩ := ho5.form; obtain ⟨A6, k6, rfl⟩ := ho6.form
        have L2 := L.on hbN; clear L; have L := L2; clear L2
        replace bz := bz.on hbN
        replace hwC := below_then hbN hwC.size hwC
        clear hbN hoE hoD
        have HLA := Lib.hid (play_lasso (full_step HF.out HFE.out HFD.out) hvn hpl (by have h1 := hlen.1; have h2 := hlen.2; omega))
        have HPH := Lib.hid (play_has HAR.out HPO.out hvn HFE.out HFD.out hpl); clear hpl
        have a0 := L.bA.d0; have a1 := L.bA.d1
        go_wp2_with fail
        refine hK.out _ _ (⟨a0, a1⟩) (fun hHeld => ?_)
        clear hK K
        try simp only [Act.put, List.setIfInBounds_toArray, List.set_cons_zero, List.set_cons_succ]
        refine takeH9 (v := ?_) (by kernel_rfl) (by kernel_rfl) (by kernel_rfl) (fun _ _ _ h => h) hHeld (by rfl) ?_ ?_
        rotate_left; · (intro w hSw; (try dsimp only at hSw); go_simp; try with_reducible rfl)
        try simp only [Act.put, List.setIfInBounds_toArray, List.set_cons_zero, List.set_cons_succ]
        refine takeH10 (v := ?_) (by kernel_rfl) (by kernel_rfl) (by kernel_rfl) (fun _ _ _ h => h) hHeld (by rfl) ?_ ?_
        rotate_left; · (intro w hSw; (try dsimp only at hSw); go_simp; try with_reducible rfl)
        try simp only [Act.put, List.setIfInBounds_toArray, List.set_cons_zero, List.set_cons_succ]
        refine takeH11 (v := ?_) (by kernel_rfl) (by kernel_rfl) (by kernel_rfl) (fun _ _ _ h => h) hHeld (by rfl) ?_ ?_
        rotate_left; · (intro w hSw; (try dsimp only at hSw); go_simp; try with_reducible rfl)
        try simp only [Act.put, List.setIfInBounds_toArray, List.set_cons_zero, List.set_cons_succ]
        have qz0 := bz.d0; have qz1 := bz.d1
        have qh0 := bz.hot 0; have qh1 := bz.hot 1
        refine callH13 (by kernel_rfl) (fun K hK => ?_)
        go_simp
        refine hK.out _ _ (⟨keepS (keepS a0 (by show w3.heap.size ≠ bl; omega)) (by show w3.heap.size ≠ bl; omega), keepS (keepS a1 (by show w3.heap.size ≠ bl; omega)) (by show w3.heap.size ≠ bl; omega)⟩) (fun hHeld => ?_)
        clear hK K
        try simp only [Act.put, List.setIfInBounds_toArray, List.set_cons_zero, List.set_cons_succ]
        refine takeH14 (v := ?_) (by kernel_rfl) (by kernel_rfl) (by kernel_rfl) (fun _ _ _ h => h) hHeld (by rfl) ?_ ?_
        rotate_left; · (intro w hSw; (try dsimp only at hSw); go_simp; try with_reducible rfl)
        try simp only [Act.put, List.setIfInBounds_toArray, List.set_cons_zero, List.set_cons_succ]
        refine wpAnyH_done (by kernel_rfl) ?_ _
        go_wp2_with fail; go_meet
        refine Lib.hid ⟨bl, _, _, _, _, _, _, st, lp, rfl, rfl, HLA.out, HPH.out, bz.set2 _ _, (ho5.chgBox bz nel (chg2 _ _ _ _)).reads, (ho6.chgBox bz nel (chg2 _ _ _ _)).reads, L.box bz (by show w3.heap.size ≠ bl; omega) (by omega) (chg2 _ _ _ _), hwC.trans ((chg2 _ _ _ _).below hwC.size (fun x hx => by have h3 : x = bl := hx; have := hw3.size; omega))⟩
    · go_simp
      refine hK.out _ _ (⟨keepA a0, keepA a1⟩) (fun hHeld => ?_)
      clear hK K
      try simp only [Act.put, List.setIfInBounds_toArray, List.set_cons_zero, List.set_cons_succ]
      have hbA : Below wD.heap.size wD (wD.alloc (.cells #[.slice none 0 0, .slice none 0 0] 38)) := below_alloc (Nat.le_refl _) (Below.refl _ _)
      have bz : Box (wD.alloc (.cells #[.slice none 0 0, .slice none 0 0] 38)) wD.heap.size 38 #[.slice none 0 0, .slice none 0 0] := Box.new _ _ _
      have hlz : b < wD.heap.size := L.hd.lt
      have hlz3 : w3.heap.size < wD.heap.size := L.bA.lt
      have L2 := L.on hbA; clear L; have L := L2; clear L2
      replace hwC := below_then hbA hwC.size hwC
      clear hbA
      generalize (wD.alloc (.cells #[.slice none 0 0, .slice none 0 0] 38)) = wa0 at *
      generalize wD.heap.size = bl at *
      have a0 := L.bA.d0; have a1 := L.bA.d1
      refine callH3 (by kernel_rfl) (fun K hK => ?_)
      go_simp
      go_at_call 13
      refine (w6Plan _ _ z 0 w1 _ b _ L.hd L.ho4 up2 HF.out).mono ?_; rintro e wc0a ⟨vE, pE, rfl, hfE, hoE, hdE, hc⟩
      obtain ⟨AE, kE, rfl⟩ := hoE.form
      have hsE : b < wa0.heap.size := L.hd.lt
      have L2 := L.chg hc hdE; clear L; have L := L2; clear L2
      have tz : Box _ bl 38 #[.slice none 0 0, .slice none 0 0] := (hc.block _ bz.lt (fun e => by have h3 : bl = b := e; omega)).trans bz; clear bz; have bz := tz; clear tz
      replace hwC := hwC.trans (hc.below hwC.size (fun x hx => by have h3 : x = b := hx; have := hw2.size; omega))
      clear hdE hc
      have HFE := Lib.hid hfE; clear hfE
      have a0 := L.bA.d0; have a1 := L.bA.d1
      go_wp2_with fail
      refine hK.out _ _ (⟨a0, a1⟩) (fun hHeld => ?_)
      clear hK K
      try simp only [Act.put, List.setIfInBounds_toArray, List.set_cons_zero, List.set_cons_succ]
      refine callH6 (by kernel_rfl) (fun K hK => ?_)
      go_simp
      go_at_call 13
      refine (w6Plan _ _ z 1 w1 _ b _ L.hd L.ho4 up2 HF.out).mono ?_; rintro e wc1a ⟨vD, pD, rfl, hfD, hoD, hdD, hc⟩
      obtain ⟨AD, kD, rfl⟩ := hoD.form
      have hsD : b < wc0a.heap.size := L.hd.lt
      have L2 := L.chg hc hdD; clear L; have L := L2; clear L2
      replace hoE := hoE.chg hc (fun y hy e => by have h3 : y = b := e; have := (hoE.lt y hy).1; omega)
      have tz : Box _ bl 38 #[.slice none 0 0, .slice none 0 0] := (hc.block _ bz.lt (fun e => by have h3 : bl = b := e; omega)).trans bz; clear bz; have bz := tz; clear tz
      replace hwC := hwC.trans (hc.below hwC.size (fun x hx => by have h3 : x = b := hx; have := hw2.size; omega))
      clear hdD hc
      have HFD := Lib.hid hfD; clear hfD
      have a0 := L.bA.d0; have a1 := L.bA.d1
      go_wp2_with fail
      refine hK.out _ _ (⟨a0, a1⟩) (fun hHeld => ?_)
      clear hK K
      try simp only [Act.put, List.setIfInBounds_toArray, List.set_cons_zero, List.set_cons_succ]
      refine callH8 (by kernel_rfl) (fun K hK => ?_)
      go_simp
      go_at_call 12
      refine (playOf _ _ _ _ _ _ _ _ _ _ _ _ z.1 z.2 pE pD vn _ _ (Nat.le_refl _) L.ho4.reads.ri L.ho4.reads.rii hoE.reads hoD.reads HF.out HAR.out HFE.out HFD.out hvn).mono ?_; rintro e wc2a ⟨v5, v6, st, lp, rfl, hpl, hlen, ho5, ho6, hbN⟩
      obtain ⟨A5, k5, rfl⟩ := ho5.form; obtain ⟨A6, k6, rfl⟩ := ho6.form
      have L2 := L.on hbN; clear L; have L := L2; clear L2
      replace bz := bz.on hbN
      replace hwC := below_then hbN hwC.size hwC
      clear hbN hoE hoD
      have HLA := Lib.hid (play_lasso (full_step HF.out HFE.out HFD.out) hvn hpl (by have h1 := hlen.1; have h2 := hlen.2; omega))
      have HPH := Lib.hid (play_has HAR.out HPO.out hvn HFE.out HFD.out hpl); clear hpl
      have a0 := L.bA.d0; have a1 := L.bA.d1
      go_wp2_with fail
      refine hK.out _ _ (⟨a0, a1⟩) (fun hHeld => ?_)
      clear hK K
      try simp only [Act.put, List.setIfInBounds_toArray, List.set_cons_zero, List.set_cons_succ]
      refine takeH9 (v := ?_) (by kernel_rfl) (by kernel_rfl) (by kernel_rfl) (fun _ _ _ h => h) hHeld (by rfl) ?_ ?_
      rotate_left; · (intro w hSw; (try dsimp only at hSw); go_simp; try with_reducible rfl)
      try simp only [Act.put, List.setIfInBounds_toArray, List.set_cons_zero, List.set_cons_succ]
      refine takeH10 (v := ?_) (by kernel_rfl) (by kernel_rfl) (by kernel_rfl) (fun _ _ _ h => h) hHeld (by rfl) ?_ ?_
      rotate_left; · (intro w hSw; (try dsimp only at hSw); go_simp; try with_reducible rfl)
      try simp only [Act.put, List.setIfInBounds_toArray, List.set_cons_zero, List.set_cons_succ]
      refine takeH11 (v := ?_) (by kernel_rfl) (by kernel_rfl) (by kernel_rfl) (fun _ _ _ h => h) hHeld (by rfl) ?_ ?_
      rotate_left; · (intro w hSw; (try dsimp only at hSw); go_simp; try with_reducible rfl)
      try simp only [Act.put, List.setIfInBounds_toArray, List.set_cons_zero, List.set_cons_succ]
      have qz0 := bz.d0; have qz1 := bz.d1
      have qh0 := bz.hot 0; have qh1 := bz.hot 1
      refine callH13 (by kernel_rfl) (fun K hK => ?_)
      go_simp
      refine hK.out _ _ (⟨keepS (keepS a0 (by show w3.heap.size ≠ bl; omega)) (by show w3.heap.size ≠ bl; omega), keepS (keepS a1 (by show w3.heap.size ≠ bl; omega)) (by show w3.heap.size ≠ bl; omega)⟩) (fun hHeld => ?_)
      clear hK K
      try simp only [Act.put, List.setIfInBounds_toArray, List.set_cons_zero, List.set_cons_succ]
      refine takeH14 (v := ?_) (by kernel_rfl) (by kernel_rfl) (by kernel_rfl) (fun _ _ _ h => h) hHeld (by rfl) ?_ ?_
      rotate_left; · (intro w hSw; (try dsimp only at hSw); go_simp; try with_reducible rfl)
      try simp only [Act.put, List.setIfInBounds_toArray, List.set_cons_zero, List.set_cons_succ]
      refine wpAnyH_done (by kernel_rfl) ?_ _
      go_wp2_with fail; go_meet
      refine Lib.hid ⟨bl, _, _, _, _, _, _, st, lp, rfl, rfl, HLA.out, HPH.out, bz.set2 _ _, (ho5.chgBox bz nel (chg2 _ _ _ _)).reads, (ho6.chgBox bz nel (chg2 _ _ _ _)).reads, L.box bz (by show w3.heap.size ≠ bl; omega) (by omega) (chg2 _ _ _ _), hwC.trans ((chg2 _ _ _ _).below hwC.size (fun x hx => by have h3 : x = bl := hx; have := hw3.size; omega))⟩
  case rest =>
    obtain ⟨bl, S, L, ms, ds, ml, dl, st, lp, rfl, rfl, hLA, hPH, bz, rS, rL, L10, hw10⟩ := hcut.out
    clear hcut L9 hw9 a0 a1
    generalize wc = w10 at *
    have HL := Lib.hid (show lasW z ps (st, lp) = ((brokenL ps lp).length == 0) by unfold lasW; rw [lasB_e HAR.out hLA, HPO.out]; rfl)
    have HPH := Lib.hid hPH
    have h1l := brkR_len z ps
    have h2l := welR_len z ps
    have HL1 := Lib.hid h1l; have HL2 := Lib.hid h2l
    clear hLA hPH h1l h2l
    have a0 := L10.bA.d0; have a1 := L10.bA.d1; have y0 := bz.d0; have y1 := bz.d1
    go_wp2_with fail
    refine (specBreaksFromV _ _ z _ _ _ ps _ _ (Nat.le_refl _) L10.ho4.reads L10.hoP.reads).mono ?_; rintro e w11 ⟨v, rfl, ho11, hb11⟩
    obtain ⟨A11, c11, rfl⟩ := ho11.form
    have L11 := L10.on hb11
    have hw11 := below_then hb11 hw10.size hw10
    replace bz := bz.on hb11
    replace rS := rS.keep (keeps_below hb11); replace rL := rL.keep (keeps_below hb11)
    clear a0 a1 y0 y1
    have a0 := L11.bA.d0; have a1 := L11.bA.d1; have y0 := bz.d0; have y1 := bz.d1
    go_wp2_with fail
    refine (likeInts _ _ _ _ _ _ _ _ _ L11.oB.reads ho11.reads).mono ?_; rintro e w12 ⟨rfl, q12⟩
    rw [eqL_self]
    have hb12 := below_qt q12 (Below.refl w11.heap.size w11)
    have L12 := L11.on hb12
    have hw12 := below_then hb12 hw11.size hw11
    replace bz := bz.on hb12
    replace rS := rS.keep (keeps_below hb12); replace rL := rL.keep (keeps_below hb12)
    clear a0 a1 y0 y1 ho11 L10 L11 hb11 hb12 q12
    have a0 := L12.bA.d0; have a1 := L12.bA.d1; have y0 := bz.d0; have y1 := bz.d1
    go_wp2_with fail
    refine (specWellFromV _ _ z _ _ _ ps _ _ (Nat.le_refl _) L12.ho4.reads L12.hoP.reads).mono ?_; rintro e w13 ⟨v, rfl, ho13, hb13⟩
    obtain ⟨A13, c13, rfl⟩ := ho13.form
    have L13 := L12.on hb13
    have hw13 := below_then hb13 hw12.size hw12
    replace bz := bz.on hb13
    replace rS := rS.keep (keeps_below hb13); replace rL := rL.keep (keeps_below hb13)
    clear a0 a1 y0 y1
    have a0 := L13.bA.d0; have a1 := L13.bA.d1; have y0 := bz.d0; have y1 := bz.d1
    go_wp2_with fail
    refine (likeInts _ _ _ _ _ _ _ _ _ L13.oW.reads ho13.reads).mono ?_; rintro e w14 ⟨rfl, q14⟩
    rw [eqL_self]
    have hb14 := below_qt q14 (Below.refl w13.heap.size w13)
    have L14 := L13.on hb14
    have hw14 := below_then hb14 hw13.size hw13
    replace bz := bz.on hb14
    replace rS := rS.keep (keeps_below hb14); replace rL := rL.keep (keeps_below hb14)
    clear a0 a1 y0 y1 ho13 L12 L13 hb13 hb14 q14
    have hq14 := Below.refl w14.heap.size w14
    go_wp2
    go_loopw [12] (fun i wr => ∃ k : Nat, k ≤ z.1.length ∧ i = .int .i64 (k : Int) ∧ Below w14.heap.size w14 wr) (fun i _ => z.1.length - (intOf i).toNat)
    case atStart => exact ⟨0, Nat.zero_le _, rfl, hq14⟩
    case round =>
      clear hq14
      obtain ⟨k, hk, rfl, hbr⟩ := hrel
      have Lr := L14.on hbr
      by_cases hlt : k < z.1.length
      · have HOH := Lib.hid (one_has HAR.out HPO.out hlt)
        have hc1 := w6Has AB (brkR z ps).length cB (brkR z ps) (k : Int) wr Lr.oB.reads
        cases h1 : hasL (brkR z ps) (k : Int) with
        | true =>
          rw [h1] at hc1
          clear h1
          go_wp2_with fail
          refine hc1.mono ?_; rintro e w15 ⟨rfl, q15⟩
          have hb15 := below_then (below_qt q15 (Below.refl wr.heap.size wr)) hbr.size hbr
          clear hc1
          go_wp2
          go_roundw
          case rel => exact ⟨k + 1, by omega, by go_num, hb15⟩
          case measure => simp [intOf]; omega
        | false =>
          have HW : Hid (hasL (welR z ps) (k : Int) = true) := Lib.hid (HOH.out.resolve_left (by rw [h1]; decide))
          rw [h1] at hc1
          clear h1
          go_wp2_with fail
          refine hc1.mono ?_; rintro e w15 ⟨rfl, q15⟩
          have hb15 := below_then (below_qt q15 (Below.refl wr.heap.size wr)) hbr.size hbr
          have hc2 := w6Has AW (welR z ps).length cW (welR z ps) (k : Int) w15 (L14.on hb15).oW.reads
          rw [HW.out] at hc2
          clear hc1
          go_wp2_with fail
          refine hc2.mono ?_; rintro e w16 ⟨rfl, q16⟩
          have hb16 := below_then (below_qt q16 (Below.refl w15.heap.size w15)) hb15.size hb15
          clear hc2
          go_wp2
          go_roundw
          case rel => exact ⟨k + 1, by omega, by go_num, hb16⟩
          case measure => simp [intOf]; omega
      · obtain rfl : k = z.1.length := by omega
        obtain ⟨w17, rfl⟩ : ∃ w17 : World, w17 = wr := ⟨_, rfl⟩
        replace bz := bz.on hbr
        replace rS := rS.keep (keeps_below hbr); replace rL := rL.keep (keeps_below hbr)
        have hw17 := below_then hbr hw14.size hw14
        have a0 := Lr.bA.d0; have a1 := Lr.bA.d1; have y0 := bz.d0; have y1 := bz.d1
        have hcl := implLassoWell _ _ z _ _ _ ps _ _ (st, lp) _ _ (Nat.le_refl _) Lr.ho4.reads Lr.hoP.reads (RTv.of rS rL)
        rw [HL.out] at hcl
        by_cases hbk : (brokenL ps lp).length = 0
        · have HH := Lib.hid (HPH.out.1 hbk)
          rw [show ((brokenL ps lp).length == 0) = true by simpa using hbk] at hcl
          clear hbk
          go_wp2_with fail
          refine hcl.mono ?_; rintro e w18 ⟨rfl, hb18⟩
          have L18 := Lr.on hb18
          have hw18 := below_then hb18 hw17.size hw17
          clear a0 a1 y0 y1 hcl
          go_wp2_with fail
          refine (w6Has AW (welR z ps).length cW (welR z ps) (vn : Int) w18 L18.oW.reads).mono ?_; rintro e w19 ⟨rfl, q19⟩
          rw [HH.out]
          have hw19 := below_then (below_qt q19 (Below.refl w18.heap.size w18)) hw18.size hw18
          go_wp2
          go_ret
          exact ⟨rfl, hw19⟩
        · have HH := Lib.hid (HPH.out.2 hbk)
          rw [show ((brokenL ps lp).length == 0) = false by simpa using hbk] at hcl
          clear hbk
          go_wp2_with fail
          refine hcl.mono ?_; rintro e w18 ⟨rfl, hb18⟩
          have L18 := Lr.on hb18
          have hw18 := below_then hb18 hw17.size hw17
          clear a0 a1 y0 y1 hcl
          go_wp2_with fail
          refine (w6Has AB (brkR z ps).length cB (brkR z ps) (vn : Int) w18 L18.oB.reads).mono ?_; rintro e w19 ⟨rfl, q19⟩
          rw [HH.out]
          have hw19 := below_then (below_qt q19 (Below.refl w18.heap.size w18)) hw18.size hw18
          go_wp2
          go_ret
          exact ⟨rfl, hw19⟩

theorem own : ownKnob Tryz.prog.godebug = none := by kernel_rfl
theorem laidOut : laidOutB Tryz.prog = true := by kernel_rfl
set_option maxRecDepth 100000 in
theorem lifted (os : Os) (started : os.Started) (H : Type) (enc : TypeId × Value → H) :
    ReturnsInHanded {} Tryz.checked os 3 .any (Rows.fnPathsFromSpec.pre6 enc Tryz.prog Tryz.f3 Rows.fnPathsFromRow.domain false) (Rows.fnPathsFromSpec.post enc Tryz.prog Tryz.f3 false true false false) := by
  refine returnsInHanded_of_change (C := Tryz.checked) own started (by kernel_rfl) Tryz.func3
    (ChangeSpec.witness6 (enc := enc) (C := Tryz.checked) false ⟨#[], #[.slice none 0 0], []⟩ 8 (by kernel_rfl) (by kernel_rfl) (by kernel_rfl) (by kernel_rfl)) ?_
  intro W base args ds gs before hval0 hW hcnd _
  have hval : ∀ (j : Nat) t v, Tryz.f3.params[j]? = some t → args[j]? = some v → Value.okWide Tryz.prog W .any base t v := hval0
  have hW' := hW
  obtain ⟨p, q, hA0, hV, rfl, hfz, hnd⟩ := hW
  have hA : DataW.TrodAll enc Tryz.prog W 0 (fun _ => true) true Tryz.f3.params.toList args.toList ds p := hA0
  rw [Tryz.params3] at hA hval
  obtain ⟨v0, vs0, d0, ds0, p0, q0, hargs, rfl, rfl, h0, r0⟩ := trodAll_cons hA
  obtain ⟨rfl, rfl, rfl⟩ := trodAll_nil r0
  obtain rfl : args = #[v0] := by cases args; simp_all
  obtain ⟨rfl, rfl⟩ := trodVars_none hV
  have k0 := h0
  have lt0 : ∀ x ∈ p0, x.block < W.heap.size := by obtain ⟨m, hm⟩ := k0; exact DataW.trod_lt m _ _ _ hm
  obtain ⟨fuel0, hf0⟩ := h0
  obtain ⟨A0, n0, c0, rfl⟩ := okWide_slice Tryz.underlying22 (hval 0 22 v0 rfl rfl)
  obtain ⟨B0, m0, d0, ps0, e0, rr0⟩ := ry_of_trod (c := .slice A0 n0 c0) Tryz.underlying22 Tryz.underlying5 (by kernel_rfl) (by intro; rfl) hf0
  injection e0 with ea0 eb0 ec0
  subst ea0; subst eb0; subst ec0
  clear hA0 hval0
  refine (walk _ _ _ _ W rr0).mono fun e W' ⟨he, bel⟩ => ?_
  subst he
  exact ⟨_, rfl, _, _, _, [], _, [], hW', trodAll_mk1 (shut_bool Tryz.underlying4 _), (trodAll_cons_mk (Below.trod laidOut (by kernel_rfl) (of_decide_eq_true (by kernel_rfl)) k0 bel lt0) trodAll_mk0), rfl, bel.frame _, fun h => by cases h⟩
theorem over : Rows.fnPathsFromRow.holds Tryz.pinned (OpenSpec.ofChange Rows.fnPathsFromSpec) :=
  OpenClaim.holds_of_wide 3 Tryz.f3 rfl rfl rfl rfl rfl rfl rfl ⟨rfl, rfl, rfl, rfl, rfl⟩ rfl rfl rfl rfl rfl (by kernel_rfl) Tryz.func3 (by kernel_rfl)
    (of_decide_eq_true (by kernel_rfl)) (by unfold Func.isWrapper; first | (rw [if_pos (by decide +kernel)]; kernel_rfl) | (rw [if_neg (by decide +kernel)]; exact ⟨rfl, rfl⟩))
    (fun os started H enc _ => lifted os started H enc)
/-- the statement -/
theorem proved : Rows.FnPathsFromSaid := over
end Go.Proofs.YtjjaolndencplaaGreat.fnPathsFrom

