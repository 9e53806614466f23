/- insideOf, InsideOf: the arena inside of a set. -/
import Derived.Test.YtlmhhnplacejkaaArB
import Derived.Test.YtlmhhnplacejkaaHand
namespace Go.Proofs.Ytlmhhnplacejkaa
open Go.RowKit

theorem twoH_1_7 {P : Program} {Q : Exit → Act → World → Prop} {md : Region.Mode} {S : World → Prop} {fuel : Nat} {listed : Array Bool} {a : Act} {w : World} {o0 o1 o2 o3 o4 o5 o6 o7 : Oper} {r : List Oper} (hr : Region.ready md (List.toArray (o0 :: o1 :: o2 :: o3 :: o4 :: o5 :: o6 :: o7 :: r)) listed = [1, 7])
    (h1 : ∀ K' : Act → World → Prop, Shut (∀ a w, S w → (S w → wpAnyH P md (List.toArray (o0 :: o1 :: o2 :: o3 :: o4 :: o5 :: o6 :: o7 :: r)) Q S fuel (listed.setIfInBounds 1 true) a w) → K' a w) → if Region.wanted o1 (yielded (List.toArray (o0 :: o1 :: o2 :: o3 :: o4 :: o5 :: o6 :: o7 :: r)) a.tmps) = true then Oper.wp P o1 a w K' Q else K' (a.put o1.dst undef) w) (h2 : ∀ K' : Act → World → Prop, Shut (∀ a w, S w → (S w → wpAnyH P md (List.toArray (o0 :: o1 :: o2 :: o3 :: o4 :: o5 :: o6 :: o7 :: r)) Q S fuel (listed.setIfInBounds 7 true) a w) → K' a w) → if Region.wanted o7 (yielded (List.toArray (o0 :: o1 :: o2 :: o3 :: o4 :: o5 :: o6 :: o7 :: r)) a.tmps) = true then Oper.wp P o7 a w K' Q else K' (a.put o7.dst undef) w) : wpAnyH P md (List.toArray (o0 :: o1 :: o2 :: o3 :: o4 :: o5 :: o6 :: o7 :: r)) Q S (fuel + 1) listed a w :=
  wpAnyH_ready (rs := [1, 7]) hr (by simp) (AllReadyH.cons rfl h1 (AllReadyH.cons rfl h2 AllReadyH.nil))
theorem twoH_1_10 {P : Program} {Q : Exit → Act → World → Prop} {md : Region.Mode} {S : World → Prop} {fuel : Nat} {listed : Array Bool} {a : Act} {w : World} {o0 o1 o2 o3 o4 o5 o6 o7 o8 o9 o10 : Oper} {r : List Oper} (hr : Region.ready md (List.toArray (o0 :: o1 :: o2 :: o3 :: o4 :: o5 :: o6 :: o7 :: o8 :: o9 :: o10 :: r)) listed = [1, 10])
    (h1 : ∀ K' : Act → World → Prop, Shut (∀ a w, S w → (S w → wpAnyH P md (List.toArray (o0 :: o1 :: o2 :: o3 :: o4 :: o5 :: o6 :: o7 :: o8 :: o9 :: o10 :: r)) Q S fuel (listed.setIfInBounds 1 true) a w) → K' a w) → if Region.wanted o1 (yielded (List.toArray (o0 :: o1 :: o2 :: o3 :: o4 :: o5 :: o6 :: o7 :: o8 :: o9 :: o10 :: r)) a.tmps) = true then Oper.wp P o1 a w K' Q else K' (a.put o1.dst undef) w) (h2 : ∀ K' : Act → World → Prop, Shut (∀ a w, S w → (S w → wpAnyH P md (List.toArray (o0 :: o1 :: o2 :: o3 :: o4 :: o5 :: o6 :: o7 :: o8 :: o9 :: o10 :: r)) Q S fuel (listed.setIfInBounds 10 true) a w) → K' a w) → if Region.wanted o10 (yielded (List.toArray (o0 :: o1 :: o2 :: o3 :: o4 :: o5 :: o6 :: o7 :: o8 :: o9 :: o10 :: r)) a.tmps) = true then Oper.wp P o10 a w K' Q else K' (a.put o10.dst undef) w) : wpAnyH P md (List.toArray (o0 :: o1 :: o2 :: o3 :: o4 :: o5 :: o6 :: o7 :: o8 :: o9 :: o10 :: r)) Q S (fuel + 1) listed a w :=
  wpAnyH_ready (rs := [1, 10]) hr (by simp) (AllReadyH.cons rfl h1 (AllReadyH.cons rfl h2 AllReadyH.nil))


set_option maxRecDepth 100000 in
set_option maxHeartbeats 3200000 in
theorem insideOf (A0 A1 C : Option Addr) (n0 c0 n1 c1 m d : Nat) (o : List Int) (n : List (List Int)) (set : List Int) (w : World) (B : Nat) (hB : B ≤ w.heap.size) (ha : RI w A0 n0 c0 o) (hb : RII w A1 n1 c1 n) (hs : RI w C m d set) (har : arB o n = true) (hset : setB set (o.length : Int) = true) (hm : 0 < m) :
    Calls Try.prog 185 #[.agg #[.slice A0 n0 c0, .slice A1 n1 c1], .slice C m d] w fun e w' => ∃ t0 t1, e = .returned (.tuple #[.agg #[t0, t1], .bool (okIns o n set)]) ∧ OArn w' B t0 t1 (insA o n set) ∧ Below B w w' := by
  have b1 := ha.cap; have b2 := ha.top; have b3 := hb.cap; have b4 := hb.top; have b5 := hs.cap; have b6 := hs.top
  have HL := Lib.hid ha.len; have HM := Lib.hid hb.len; have HD := Lib.hid hs.len
  have hf := fineAr_of har
  have hn0 := hf.2.1; have hn1 := hf.2.2.1; have hn3 := hf.1
  rw [HL.out] at hn0 hn1 hn3
  rw [HM.out] at hn1
  have hml : m ≤ n0 := by have := set_len hset (by omega); rw [HD.out, HL.out] at this; omega
  rw [HL.out] at hset
  have HF := Lib.hid hf; have HS := Lib.hid hset; have HA := Lib.hid har; have H10 := Lib.hid hn1
  clear hf hn1 hset har
  have HZ := Lib.hid (show ((w.alloc (.cells #[.slice A0 n0 c0, .slice A1 n1 c1] 30)).alloc (.cells #[.slice none 0 0, .slice none 0 0] 30)).heap.size = w.heap.size + 2 by simp)
  have hba : Below w.heap.size w ((w.alloc (.cells #[.slice A0 n0 c0, .slice A1 n1 c1] 30)).alloc (.cells #[.slice none 0 0, .slice none 0 0] 30)) := below_alloc (Nat.le_refl _) (below_alloc (Nat.le_refl _) (Below.refl _ _))
  have bxL := (Box.new w 30 #[.slice A0 n0 c0, .slice A1 n1 c1]).alloc (.cells #[.slice none 0 0, .slice none 0 0] 30)
  have brL : Box ((w.alloc (.cells #[.slice A0 n0 c0, .slice A1 n1 c1] 30)).alloc (.cells #[.slice none 0 0, .slice none 0 0] 30)) (w.heap.size + 1) 30 #[.slice none 0 0, .slice none 0 0] := Box.new' (by simp)
  have q0 := bxL.d0; have q1 := bxL.d1
  go_enter Try.func185, Try.ntmps185
  go_wp2_with (refine wpList_makeI rfl (.tmp 18) rfl _ n0 rfl (by omega) ?_; intro w1 hown hb1; have hX1 := bxL.on hb1; have hZ1 := brL.on hb1; rw [HZ.out] at hown ⊢; replace hb1 := below_then hb1 hba.size hba; clear hba bxL brL q0 q1)
  go_loopw [22] (fun i wr => ∃ k : Nat, k ≤ n0 ∧ i = .int .i64 k ∧ OI 2 wr (w.heap.size + 2) (.slice (some ⟨w.heap.size + 2, 0, none⟩) n0 n0) (fillUp (fun _ => -1) n0 (fun _ => 0) k) ∧ Box wr w.heap.size 30 #[.slice A0 n0 c0, .slice A1 n1 c1] ∧ Box wr (w.heap.size + 1) 30 #[.slice none 0 0, .slice none 0 0] ∧ Below w.heap.size w wr) (fun i _ => n0 - (intOf i).toNat)
  case atStart => exact ⟨0, Nat.zero_le _, rfl, by rw [fillUp_zero, ← fill_zeros]; exact hown, hX1, hZ1, hb1⟩
  case round =>
    clear hown hX1 hZ1 hb1
    obtain ⟨k, hk, rfl, ho, hX, hZ, hbr⟩ := hrel
    by_cases hlt : k < n0
    · have hcm := ho.cellAt (i := k) (by rw [fillUp_len]; exact hlt)
      have hfz := ho.hot (i := k) (by rw [fillUp_len])
      have HX := Lib.hid (fillUp_put (f := fun _ => -1) (g := fun _ => 0) hlt)
      have HO := Lib.hid ho
      clear ho
      go_wp2
      go_roundw
      case rel => exact ⟨k + 1, by omega, by go_num, by rw [← HX.out]; exact HO.out.set_ (by rw [fillUp_len]) (-1), hX.far (by show w.heap.size ≠ w.heap.size + 2; omega) _, hZ.far (by show w.heap.size + 1 ≠ w.heap.size + 2; omega) _, below_set (by show w.heap.size ≤ w.heap.size + 2; omega) hbr⟩
      case measure => simp [intOf]; omega
    · obtain rfl : k = n0 := by omega
      obtain ⟨n0, rfl⟩ : ∃ n0 : Nat, n0 = k := ⟨_, rfl⟩
      have HE := Lib.hid (show fillUp (fun _ => -1) n0 (fun _ => 0) n0 = idxUp set n0 0 from fillUp_full (fun _ => -1) (fun _ => 0) n0)
      rw [HE.out] at ho
      go_wp2
      go_loopw [31] (fun i wr => ∃ k : Nat, k ≤ m ∧ i = .int .i64 k ∧ OI 2 wr (w.heap.size + 2) (.slice (some ⟨w.heap.size + 2, 0, none⟩) n0 n0) (idxUp set n0 k) ∧ Box wr w.heap.size 30 #[.slice A0 n0 c0, .slice A1 n1 c1] ∧ Box wr (w.heap.size + 1) 30 #[.slice none 0 0, .slice none 0 0] ∧ Below w.heap.size w wr) (fun i _ => m - (intOf i).toNat)
      case atStart => exact ⟨0, Nat.zero_le _, rfl, ho, hX, hZ, hbr⟩
      case round =>
        clear ho hX hZ hbr
        obtain ⟨k, hk, rfl, ho, hX, hZ, hbr⟩ := hrel
        by_cases hlt : k < m
        · obtain ⟨bd, od_, rfl, hcd⟩ := (hs.keep (keeps_below hbr)).at_ hlt
          have hbd := setB_true.1 HS.out k (by rw [HD.out]; exact hlt)
          obtain ⟨v, hv⟩ := Int.eq_ofNat_of_zero_le hbd.1
          have hvn : v < n0 := by have := hbd.2.1; omega
          rw [hv] at hcd
          have HX := Lib.hid (show idxUp set n0 (k + 1) = (idxUp set n0 k).set v (k : Int) by rw [idxUp, hv]; simp)
          clear hbd hv
          have hcm := ho.cellAt (i := v) (by rw [idxUp_len]; exact hvn)
          have hfz := ho.hot (i := v) (by rw [idxUp_len])
          have hvi : (v : Int) < (n0 : Int) := by omega
          have hv0 : (0 : Int) ≤ (v : Int) := by omega
          have HO := Lib.hid ho
          clear ho
          go_wp2
          go_roundw
          case rel => exact ⟨k + 1, by omega, by go_num, by rw [HX.out]; exact HO.out.set_ (by rw [idxUp_len]) (k : Int), hX.far (by show w.heap.size ≠ w.heap.size + 2; omega) _, hZ.far (by show w.heap.size + 1 ≠ w.heap.size + 2; omega) _, below_set (by show w.heap.size ≤ w.heap.size + 2; omega) hbr⟩
          case measure => simp [intOf]; omega
        · obtain rfl : k = m := by omega
          obtain ⟨wz, rfl⟩ : ∃ wz : World, wz = wr := ⟨_, rfl⟩
          obtain ⟨m, rfl⟩ : ∃ m : Nat, m = k := ⟨_, rfl⟩
          have HPL := Lib.hid (show ∀ u, u < n0 → gi (idxUp set n0 m) u = placeL set (u : Int) from fun u hu => by rw [← HD.out]; exact idxUp_place HS.out hu)
          have HAW := Lib.hid (idxUp_len set n0 m)
          generalize idxUp set n0 m = at_ at *
          have hoA := ho
          have hGS : GAx (wz.heap.size + 1) w wz (wz.alloc (.cells #[.slice none 0 0, .slice none 0 0] 30)) (w.heap.size + 1) wz.heap.size (.slice none 0 0) (.slice none 0 0) (insUp o n set 0) := GAx.start hbr (Nat.le_succ _) hZ
          have hgS : goodIn n set 0 := fun i hi => absurd hi (by omega)
          have hXz := hX.lt
          have hoz := (hoA.lt _ rfl).2
          have hX2 := hX
          clear ho hX
          go_wp2
          go_loopw [44] (fun i wr => ∃ (k : Nat) (u0 u1 : Value), k ≤ m ∧ i = .int .i64 k ∧ goodIn n set k ∧ GAx (wz.heap.size + 1) w wz wr (w.heap.size + 1) wz.heap.size u0 u1 (insUp o n set k)) (fun i _ => m - (intOf i).toNat)
          case atStart => exact ⟨0, _, _, Nat.zero_le _, rfl, hgS, hGS⟩
          case round =>
            clear hGS hgS
            obtain ⟨k, u0, u1, hk, rfl, hgd, hG⟩ := hrel
            have hC := hG.low
            obtain ⟨wo, rfl⟩ : ∃ wo : World, wo = wr := ⟨_, rfl⟩
            have HG := Lib.hid hgd
            clear hgd
            have hwo := hG.below
            have hsz := hG.size
            have hX : Box wo w.heap.size 30 #[.slice A0 n0 c0, .slice A1 n1 c1] := hX2.on hC
            have hoR := hoA.below hC
            have q0 := hX.d0; have q1 := hX.d1
            have HI1 := Lib.hid (insUp_len o n set k).1; have HI2 := Lib.hid (insUp_len o n set k).2
            obtain ⟨U0, e0, U1, e1, rfl, rfl⟩ := hG.own.form
            rw [HI1.out, HI2.out] at hG
            by_cases hlt : k < m
            · obtain ⟨bd, od_, rfl, hcd⟩ := (hs.keep (keeps_below hwo)).at_ hlt
              have hbd := setB_true.1 HS.out k (by rw [HD.out]; exact hlt)
              obtain ⟨v, hv⟩ := Int.eq_ofNat_of_zero_le hbd.1
              have hvn : v < n0 := by have := hbd.2.1; omega
              rw [hv] at hcd
              have HV := Lib.hid hv
              clear hbd hv
              have hlt1 : v < n1 := by have := H10.out; omega
              obtain ⟨bo, oo, rfl, hcko⟩ := ha.at_ hvn
              obtain ⟨bn, on, An, nn, cn, rfl, hcn, rn⟩ := hb.at_ hlt1
              have lo_ := cell_lt hcko
              have ko := below_cell hwo hcko; have kn := below_cell hwo hcn
              have x1 : ¬ wz.heap.size = bo := by omega
              have x3 : ¬ wz.heap.size = w.heap.size := by omega
              have hki : (k : Int) < (m : Int) := by omega
              have hk0 : (0 : Int) ≤ (k : Int) := by omega
              have hvi : (v : Int) < (n0 : Int) := by omega
              have hvi1 : (v : Int) < (n1 : Int) := by omega
              have hv0 : (0 : Int) ≤ (v : Int) := by omega
              have HRW := Lib.hid (HF.out.2.2.2 v (by rw [HL.out]; exact hvn)).2
              have HNN := Lib.hid rn.len
              have hnn : nn ≤ 16 := by have := HRW.out.1.2; rw [rn.len] at this; exact this
              have c1' := rn.cap; have c2' := rn.top
              have hem := OI.empty (E := 2) (w := wo) (B := wo.heap.size) (Nat.le_refl _)
              have hbE : Below wo.heap.size wo (wo.alloc (.cells #[] 2)) := below_alloc (Nat.le_refl _) (Below.refl _ _)
              have q1a : (wo.alloc (.cells #[] 2)).cell? ⟨w.heap.size, 1, none⟩ = some (.slice (some ⟨bn, on, none⟩) n1 c1) := keepA q1
              have kna : (wo.alloc (.cells #[] 2)).cell? ⟨bn, on + v, none⟩ = some (.slice An nn cn) := keepA kn
              go_wp2
              go_loopw [13, 55] (fun u i wr => ∃ j : Nat, j ≤ nn ∧ i = .int .i64 j ∧ OI 2 wr wo.heap.size u (inUp set (gl n v) j) ∧ Below wo.heap.size wo wr) (fun _ i _ => nn - (intOf i).toNat)
              case atStart => exact ⟨0, Nat.zero_le _, rfl, hem, hbE⟩
              case round =>
                clear hem hbE q1a kna
                obtain ⟨j, hj, rfl, hoJ, hbr2⟩ := hrel
                have hX := hX.on hbr2
                have hwr := below_then hbr2 hwo.size hwo
                have hpl := inUp_take (set := set) (row := gl n v) (k := j)
                clear q0 q1 kn hcd
                have q0 := hX.d0; have q1 := hX.d1
                by_cases hjl : j < nn
                · obtain ⟨br, ore, rfl, hcr⟩ := (rn.keep (keeps_below hwr)).at_ hjl
                  have hrb := set_mem HRW.out.2 (gi_mem (xs := gl n v) (i := j) (by rw [HNN.out]; exact hjl))
                  obtain ⟨u, hu⟩ := Int.eq_ofNat_of_zero_le hrb.1
                  have hun : u < n0 := by have h8 := hrb.2; rw [HL.out] at h8; omega
                  rw [hu] at hcr
                  have hca := (hoR.below hbr2).cellAt (i := u) (by rw [HAW.out]; exact hun)
                  have HU := Lib.hid hu
                  have hui : (u : Int) < (n0 : Int) := by omega
                  have hu0 : (0 : Int) ≤ (u : Int) := by omega
                  have hji : (j : Int) < (nn : Int) := by omega
                  have hj0 : (0 : Int) ≤ (j : Int) := by omega
                  have hszr := hbr2.size
                  clear hrb hu
                  cases hh : hasL set (u : Int) with
                  | true =>
                    have hge : (0 : Int) ≤ gi at_ u := by rw [HPL.out u hun]; exact (placeL_neg HS.out).2 hh
                    have HNX := Lib.hid (show inUp set (gl n v) (j + 1) = inUp set (gl n v) j ++ [gi at_ u] by rw [inUp_yes (by rw [HU.out]; exact hh), HU.out, HPL.out u hun])
                    clear hh
                    go_wp2_with (at_builtin; refine wpList_pushI rfl (.tmp 64) (.tmp 69) rfl _ wo.heap.size u13 (inUp set (gl n v) j) (by rfl) hoJ _ (by rfl) (by omega) hszr ?_; intro vn wn hon hbn hcn2 hatn)
                    go_wp2
                    go_roundw
                    case rel => exact ⟨j + 1, by omega, by go_num, by rw [HNX.out]; exact hon, hbr2.trans hbn⟩
                    case measure => simp [intOf]; omega
                  | false =>
                    have hge : ¬ (0 : Int) ≤ gi at_ u := by rw [HPL.out u hun, placeL_neg HS.out, hh]; simp
                    have HNX := Lib.hid (show inUp set (gl n v) (j + 1) = inUp set (gl n v) j from inUp_no (by rw [HU.out]; exact hh))
                    clear hh
                    go_wp2
                    go_roundw
                    case rel => exact ⟨j + 1, by omega, by go_num, by rw [HNX.out]; exact hoJ, hbr2⟩
                    case measure => simp [intOf]; omega
                · obtain rfl : j = nn := by omega
                  have HNX := Lib.hid (show inUp set (gl n v) j = inRow set (gl n v) by unfold inRow; rw [HNN.out])
                  rw [HNX.out] at hoJ
                  have HN := Lib.hid (show insUp o n set (k + 1) = ((insUp o n set k).1 ++ [gi o v], (insUp o n set k).2 ++ [inRow set (gl n v)]) by rw [insUp, HV.out]; simp)
                  have HGN := Lib.hid (show 0 < (inRow set (gl n v)).length → goodIn n set (k + 1) from fun h => all_succ HG.out (by rw [HV.out]; exact h))
                  have HGB := Lib.hid (show ¬ 0 < (inRow set (gl n v)).length → okIns o n set = false from fun h => okIns_no3 fun h2 => h (by have h3 := h2.2 k (by rw [HD.out]; exact hlt); rw [HV.out] at h3; exact h3))
                  clear hpl
                  generalize inRow set (gl n v) = nx at *
                  obtain ⟨Av, cv, rfl⟩ := hoJ.form
                  by_cases hz : 0 < nx.length
                  · have HGD := Lib.hid (HGN.out hz)
                    have hne : ((nx.length : Int) == 0) = false := by rw [beq_eq_false_iff_ne]; omega
                    have hU := GAu.of hG hbr2 hoJ
                    have ko := below_cell hwr hcko
                    clear hG hoJ hoR hz q0 q1
                    have q0 := hX.d0; have q1 := hX.d1
                    go_wp2_with fail

                    refine wp_region_held_drew (S := (fun w' => w'.cell? ⟨w.heap.size, 0, none⟩ = some (.slice (some ⟨bo, oo, none⟩) n0 c0) ∧ w'.cell? ⟨bo, oo + v, none⟩ = some (.int .i64 (gi o v)))) (by kernel_rfl) (⟨q0, ko⟩) (fun hHeld => ?_)
                    replace hU := hU.move (Below.drew (Below.refl _ _))
                    replace hX : Box wr.drew w.heap.size 30 #[.slice (some ⟨bo, oo, none⟩) n0 c0, .slice (some ⟨bn, on, none⟩) n1 c1] := hX
                    replace q0 : wr.drew.cell? ⟨w.heap.size, 0, none⟩ = some (.slice (some ⟨bo, oo, none⟩) n0 c0) := q0
                    replace ko : wr.drew.cell? ⟨bo, oo + v, none⟩ = some (.int .i64 (gi o v)) := ko
                    generalize wr.drew = wd at *
                    have g0 := hU.box.d0
                    refine takeH0 (v := ?_) (by kernel_rfl) (by kernel_rfl) (by kernel_rfl) (fun _ _ _ h => h) hHeld (by rfl) ?_ ?_
                    rotate_left; · (intro w hSw; (try dsimp only at hSw); go_simp; try with_reducible rfl)
                    try simp only [Act.put, List.setIfInBounds_toArray, List.set_cons_zero, List.set_cons_succ]
                    refine takeH2 (v := ?_) (by kernel_rfl) (by kernel_rfl) (by kernel_rfl) (fun _ _ _ h => h) hHeld (by rfl) ?_ ?_
                    rotate_left; · (intro w hSw; (try dsimp only at hSw); go_simp; try with_reducible rfl)
                    try simp only [Act.put, List.setIfInBounds_toArray, List.set_cons_zero, List.set_cons_succ]
                    refine takeH3 (v := ?_) (by kernel_rfl) (by kernel_rfl) (by kernel_rfl) (fun _ _ _ h => h) hHeld (by rfl) ?_ ?_
                    rotate_left; · (intro w hSw; (try dsimp only at hSw); go_simp; try with_reducible rfl)
                    try simp only [Act.put, List.setIfInBounds_toArray, List.set_cons_zero, List.set_cons_succ]
                    refine takeH4 (v := ?_) (by kernel_rfl) (by kernel_rfl) (by kernel_rfl) (fun _ _ _ h => h) hHeld (by rfl) ?_ ?_
                    rotate_left; · (intro w hSw; (try dsimp only at hSw); go_simp; try with_reducible rfl)
                    try simp only [Act.put, List.setIfInBounds_toArray, List.set_cons_zero, List.set_cons_succ]
                    refine takeH5 (v := ?_) (by kernel_rfl) (by kernel_rfl) (by kernel_rfl) (fun _ _ _ h => h) hHeld (by rfl) ?_ ?_
                    rotate_left; · (intro w hSw; (try dsimp only at hSw); go_simp; try with_reducible rfl)
                    try simp only [Act.put, List.setIfInBounds_toArray, List.set_cons_zero, List.set_cons_succ]
                    refine takeH6 (v := ?_) (by kernel_rfl) (by kernel_rfl) (by kernel_rfl) (fun _ _ _ h => h) hHeld (by rfl) ?_ ?_
                    rotate_left; · (intro w hSw; (try dsimp only at hSw); go_simp; try with_reducible rfl)
                    try simp only [Act.put, List.setIfInBounds_toArray, List.set_cons_zero, List.set_cons_succ]
                    refine twoH_1_7 (by kernel_rfl) (fun K hK => ?_) (fun K hK => ?_)
                    · go_simp
                      refine hK.out _ _ (⟨q0, ko⟩) (fun hHeld => ?_)
                      clear hK K
                      try simp only [Act.put, List.setIfInBounds_toArray, List.set_cons_zero, List.set_cons_succ]
                      refine callH7 (by kernel_rfl) (fun K hK => ?_)
                      have q0A : (wd.alloc (.cells #[.int .i64 (gi o v)] 2)).cell? ⟨w.heap.size, 0, none⟩ = some (.slice (some ⟨bo, oo, none⟩) n0 c0) := keepA q0
                      have koA : (wd.alloc (.cells #[.int .i64 (gi o v)] 2)).cell? ⟨bo, oo + v, none⟩ = some (.int .i64 (gi o v)) := keepA ko
                      go_simp
                      refine hK.out _ _ (⟨q0A, koA⟩) (fun hHeld => ?_)
                      clear hK K
                      try simp only [Act.put, List.setIfInBounds_toArray, List.set_cons_zero, List.set_cons_succ]
                      refine callH8 (by kernel_rfl) (fun K hK => ?_)
                      have hq1 : RI (wd.alloc (.cells #[.int .i64 (gi o v)] 2)) (some ⟨wd.heap.size, 0, none⟩) 1 1 [gi o v] := RI.one1 ((Box.new wd 2 #[.int .i64 (gi o v)]).cell 0)
                      have hbA : Below wd.heap.size wd (wd.alloc (.cells #[.int .i64 (gi o v)] 2)) := below_alloc (Nat.le_refl _) (Below.refl _ _)
                      have hUA := hU.move hbA
                      have hlA := hUA.size
                      refine step_of_list (by rfl) (wp_appI (.tmp 77) (.tmp 83) (by rfl) (wd.alloc (.cells #[.int .i64 (gi o v)] 2)) (wz.heap.size + 1) (.slice U0 k e0) (insUp o n set k).1 (by rfl) hUA.own.row0 (some ⟨wd.heap.size, 0, none⟩) 1 1 [gi o v] (by rfl) hq1 (by rw [HI1.out]; omega) (by omega) hlA ?_)
                      intro v7 w7 ho7 hb7 hc7 hat7
                      obtain ⟨A7, c7, h7e⟩ := ho7.form
                      have h7f : v7 = .slice A7 (k + 1) c7 := by rw [h7e, List.length_append, HI1.out]; rfl
                      clear h7e
                      subst h7f
                      have hM := hUA.app0 hc7 ho7 hat7
                      have hXA : Box (wd.alloc (.cells #[.int .i64 (gi o v)] 2)) w.heap.size 30 #[.slice (some ⟨bo, oo, none⟩) n0 c0, .slice (some ⟨bn, on, none⟩) n1 c1] := hX.alloc _
                      have hX7 : Box w7 w.heap.size 30 #[.slice (some ⟨bo, oo, none⟩) n0 c0, .slice (some ⟨bn, on, none⟩) n1 c1] := (hc7.block _ hXA.lt (fun e => by have := hUA.own.oldA _ (.inl e); have := hUA.ord; omega)).trans hXA
                      have g7 := hM.box.d0
                      have f7 := hM.box.hot 0
                      have q0 := hX7.d0
                      have ko := below_cell hM.below hcko
                      clear hUA hXA hq1 hbA hat7
                      refine hK.out _ _ (⟨q0, ko⟩) (fun hHeld => ?_)
                      clear hK K
                      try simp only [Act.put, List.setIfInBounds_toArray, List.set_cons_zero, List.set_cons_succ]
                      refine takeH9 (v := ?_) (by kernel_rfl) (by kernel_rfl) (by kernel_rfl) (fun _ _ _ h => h) hHeld (by rfl) ?_ ?_
                      rotate_left; · (intro w hSw; (try dsimp only at hSw); go_simp; try with_reducible rfl)
                      try simp only [Act.put, List.setIfInBounds_toArray, List.set_cons_zero, List.set_cons_succ]
                      refine callH10 (by kernel_rfl) (fun K hK => ?_)
                      have hU8 := hM.store
                      have hX8 : Box (w7.setCell ⟨wz.heap.size, 0, none⟩ (.slice A7 (k + 1) c7)) w.heap.size 30 #[.slice (some ⟨bo, oo, none⟩) n0 c0, .slice (some ⟨bn, on, none⟩) n1 c1] := hX7.far (by show w.heap.size ≠ wz.heap.size; omega) _
                      have q0 := hX8.d0
                      have ko := below_cell hU8.below hcko
                      go_simp
                      refine hK.out _ _ (⟨q0, ko⟩) (fun hHeld => ?_)
                      clear hK K
                      try simp only [Act.put, List.setIfInBounds_toArray, List.set_cons_zero, List.set_cons_succ]
                      refine wpAnyH_done (by kernel_rfl) ?_ _
                      have hl8 := hU8.size
                      have hop8 := hU8.own
                      have g18 := hU8.box.d1
                      clear hM hX7 g7 f7
                      generalize (w7.setCell ⟨wz.heap.size, 0, none⟩ (.slice A7 (k + 1) c7)) = w8 at *
                      go_wp2_with (at_builtin; refine wpList_pushU rfl (.tmp 87) (.tmp 89) (by rfl) w8 (wz.heap.size + 1) (.slice A7 (k + 1) c7) (.slice U1 k e1) (.slice Av nx.length cv) ((insUp o n set k).1 ++ [gi o v], (insUp o n set k).2, nx) (by rfl) (by rfl) hl8 hop8 (by show (insUp o n set k).2.length ≤ 4194304; rw [HI2.out]; omega) ?_; intro t1 w9 ho9 hb9 hc9 hat9; obtain ⟨A8, c8, A9, c9, h0e9, h1e9⟩ := ho9.form; have h1e : t1 = .slice A9 (k + 1) c9 := (by rw [h1e9, List.length_append, HI2.out]; rfl); clear h0e9 h1e9 hat9; subst h1e; obtain ⟨bx9, hG9⟩ := hU8.app1 hc9 ho9; have g9 := bx9.d1; have f9 := bx9.hot 1; clear bx9)
                      have HG9 := Lib.hid hG9
                      exact ⟨⟨k + 1, _, _, by omega, by go_num, HGD.out, by rw [HN.out]; exact HG9.out⟩, by simp [intOf]; omega⟩
                    · have q0A : (wd.alloc (.cells #[.int .i64 (gi o v)] 2)).cell? ⟨w.heap.size, 0, none⟩ = some (.slice (some ⟨bo, oo, none⟩) n0 c0) := keepA q0
                      have koA : (wd.alloc (.cells #[.int .i64 (gi o v)] 2)).cell? ⟨bo, oo + v, none⟩ = some (.int .i64 (gi o v)) := keepA ko
                      have g0A : ∀ o, (wd.alloc o).cell? ⟨wz.heap.size, 0, none⟩ = some (.slice U0 k e0) := fun o => keepA g0
                      go_simp
                      refine hK.out _ _ (⟨q0A, koA⟩) (fun hHeld => ?_)
                      clear hK K
                      try simp only [Act.put, List.setIfInBounds_toArray, List.set_cons_zero, List.set_cons_succ]
                      refine callH1 (by kernel_rfl) (fun K hK => ?_)
                      go_simp
                      refine hK.out _ _ (⟨q0A, koA⟩) (fun hHeld => ?_)
                      clear hK K
                      try simp only [Act.put, List.setIfInBounds_toArray, List.set_cons_zero, List.set_cons_succ]
                      refine callH8 (by kernel_rfl) (fun K hK => ?_)
                      have hq1 : RI (wd.alloc (.cells #[.int .i64 (gi o v)] 2)) (some ⟨wd.heap.size, 0, none⟩) 1 1 [gi o v] := RI.one1 ((Box.new wd 2 #[.int .i64 (gi o v)]).cell 0)
                      have hbA : Below wd.heap.size wd (wd.alloc (.cells #[.int .i64 (gi o v)] 2)) := below_alloc (Nat.le_refl _) (Below.refl _ _)
                      have hUA := hU.move hbA
                      have hlA := hUA.size
                      refine step_of_list (by rfl) (wp_appI (.tmp 77) (.tmp 83) (by rfl) (wd.alloc (.cells #[.int .i64 (gi o v)] 2)) (wz.heap.size + 1) (.slice U0 k e0) (insUp o n set k).1 (by rfl) hUA.own.row0 (some ⟨wd.heap.size, 0, none⟩) 1 1 [gi o v] (by rfl) hq1 (by rw [HI1.out]; omega) (by omega) hlA ?_)
                      intro v7 w7 ho7 hb7 hc7 hat7
                      obtain ⟨A7, c7, h7e⟩ := ho7.form
                      have h7f : v7 = .slice A7 (k + 1) c7 := by rw [h7e, List.length_append, HI1.out]; rfl
                      clear h7e
                      subst h7f
                      have hM := hUA.app0 hc7 ho7 hat7
                      have hXA : Box (wd.alloc (.cells #[.int .i64 (gi o v)] 2)) w.heap.size 30 #[.slice (some ⟨bo, oo, none⟩) n0 c0, .slice (some ⟨bn, on, none⟩) n1 c1] := hX.alloc _
                      have hX7 : Box w7 w.heap.size 30 #[.slice (some ⟨bo, oo, none⟩) n0 c0, .slice (some ⟨bn, on, none⟩) n1 c1] := (hc7.block _ hXA.lt (fun e => by have := hUA.own.oldA _ (.inl e); have := hUA.ord; omega)).trans hXA
                      have g7 := hM.box.d0
                      have f7 := hM.box.hot 0
                      have q0 := hX7.d0
                      have ko := below_cell hM.below hcko
                      clear hUA hXA hq1 hbA hat7
                      refine hK.out _ _ (⟨q0, ko⟩) (fun hHeld => ?_)
                      clear hK K
                      try simp only [Act.put, List.setIfInBounds_toArray, List.set_cons_zero, List.set_cons_succ]
                      refine takeH9 (v := ?_) (by kernel_rfl) (by kernel_rfl) (by kernel_rfl) (fun _ _ _ h => h) hHeld (by rfl) ?_ ?_
                      rotate_left; · (intro w hSw; (try dsimp only at hSw); go_simp; try with_reducible rfl)
                      try simp only [Act.put, List.setIfInBounds_toArray, List.set_cons_zero, List.set_cons_succ]
                      refine callH10 (by kernel_rfl) (fun K hK => ?_)
                      have hU8 := hM.store
                      have hX8 : Box (w7.setCell ⟨wz.heap.size, 0, none⟩ (.slice A7 (k + 1) c7)) w.heap.size 30 #[.slice (some ⟨bo, oo, none⟩) n0 c0, .slice (some ⟨bn, on, none⟩) n1 c1] := hX7.far (by show w.heap.size ≠ wz.heap.size; omega) _
                      have q0 := hX8.d0
                      have ko := below_cell hU8.below hcko
                      go_simp
                      refine hK.out _ _ (⟨q0, ko⟩) (fun hHeld => ?_)
                      clear hK K
                      try simp only [Act.put, List.setIfInBounds_toArray, List.set_cons_zero, List.set_cons_succ]
                      refine wpAnyH_done (by kernel_rfl) ?_ _
                      have hl8 := hU8.size
                      have hop8 := hU8.own
                      have g18 := hU8.box.d1
                      clear hM hX7 g7 f7
                      generalize (w7.setCell ⟨wz.heap.size, 0, none⟩ (.slice A7 (k + 1) c7)) = w8 at *
                      go_wp2_with (at_builtin; refine wpList_pushU rfl (.tmp 87) (.tmp 89) (by rfl) w8 (wz.heap.size + 1) (.slice A7 (k + 1) c7) (.slice U1 k e1) (.slice Av nx.length cv) ((insUp o n set k).1 ++ [gi o v], (insUp o n set k).2, nx) (by rfl) (by rfl) hl8 hop8 (by show (insUp o n set k).2.length ≤ 4194304; rw [HI2.out]; omega) ?_; intro t1 w9 ho9 hb9 hc9 hat9; obtain ⟨A8, c8, A9, c9, h0e9, h1e9⟩ := ho9.form; have h1e : t1 = .slice A9 (k + 1) c9 := (by rw [h1e9, List.length_append, HI2.out]; rfl); clear h0e9 h1e9 hat9; subst h1e; obtain ⟨bx9, hG9⟩ := hU8.app1 hc9 ho9; have g9 := bx9.d1; have f9 := bx9.hot 1; clear bx9)
                      have HG9 := Lib.hid hG9
                      exact ⟨⟨k + 1, _, _, by omega, by go_num, HGD.out, by rw [HN.out]; exact HG9.out⟩, by simp [intOf]; omega⟩
                  · have E := Lib.hid (HGB.out hz)
                    have E2 := Lib.hid (insA_no E.out)
                    have hne : ((nx.length : Int) == 0) = true := by rw [beq_iff_eq]; omega
                    have hZr := (hG.move hbr2).zero
                    clear hz
                    have z0 := hZr.d0; have z1 := hZr.d1; have y0 := hZr.hot 0; have y1 := hZr.hot 1
                    go_wp2
                    obtain ⟨hwZ, bxZ⟩ := zero2 hwr (by omega) hZr (.slice none 0 0) (.slice none 0 0)
                    have R0 := bxZ.d0; have R1 := bxZ.d1
                    exact bodyPost_ret (v := .tuple #[.agg #[.slice none 0 0, .slice none 0 0], .bool false]) (by simp [results, Try.results185, go_sem, R0, R1]) rfl ⟨_, _, by rw [E.out], by rw [E2.out]; exact OArn.nil _ _, hwZ.mono hB⟩
            · obtain rfl : k = m := by omega
              have E := Lib.hid (okIns_yes HA.out (by rw [HL.out]; exact HS.out) (by rw [HD.out]; exact hm) (by rw [HD.out]; exact HG.out))
              have E2 := Lib.hid (show insA o n set = insUp o n set k by rw [insA_yes E.out, HD.out])
              have g0 := hG.box.d0; have g1 := hG.box.d1
              have z0 := hG.zero.d0; have z1 := hG.zero.d1
              have F0 := hG.zero.hot 0; have F1 := hG.zero.hot 1
              obtain ⟨hF1, hF2, hF3⟩ := hG.fin
              have R0 := hF3.d0; have R1 := hF3.d1
              go_wp2
              exact bodyPost_ret (v := .tuple #[.agg #[.slice U0 k e0, .slice U1 k e1], .bool true]) (by simp [results, Try.results185, go_sem, R0, R1]) rfl ⟨_, _, by rw [E.out], by rw [E2.out]; exact hF1.more (by omega), hF2.mono hB⟩
end Go.Proofs.Ytlmhhnplacejkaa
