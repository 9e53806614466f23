/- isLasso, metBy; LassoWell, spec and impl. -/
import Derived.Test.YtlmhhnplacejkaaLassoW
namespace Go.Proofs.Ytlmhhnplacejkaa
open Go.RowKit

theorem gi_app_l {xs ys : List Int} {i : Nat} (h : i < xs.length) : gi (xs ++ ys) i = gi xs i := by simp [gi, List.getElem?_append_left h]
theorem gi_app_r {xs ys : List Int} {n : Nat} (h : xs.length = n) : gi (xs ++ ys) n = gi ys 0 := by
  subst h
  simp [gi, List.getElem?_append_right]
theorem gi_app_e {xs : List Int} {x : Int} : gi (xs ++ [x]) xs.length = x := by simp [gi]


set_option maxRecDepth 100000 in
set_option maxHeartbeats 3200000 in
theorem isLasso (A0 A1 S L : Option Addr) (n0 c0 n1 c1 m d k f : Nat) (o : List Int) (n : List (List Int)) (z : TwoD) (w : World) (B : Nat) (hB : B ≤ w.heap.size) (ha : RI w A0 n0 c0 o) (hb : RII w A1 n1 c1 n) (hs : RI w S m d z.1) (hl : RI w L k f z.2) (hf : fineAr o n) :
    Calls Try.prog 77 #[.agg #[.slice A0 n0 c0, .slice A1 n1 c1], .agg #[.slice S m d, .slice L k f]] w fun e w' => e = .returned (.bool (lasE o n z)) ∧ Below B w w' := by
  have b1 := hs.cap; have b2 := hs.top; have b3 := hl.cap; have b4 := hl.top
  have HM := Lib.hid hs.len; have HK := Lib.hid hl.len; have HO := Lib.hid ha.len; have HN := Lib.hid hb.len
  have hba : Below w.heap.size w ((w.alloc (.cells #[.slice A0 n0 c0, .slice A1 n1 c1] 30)).alloc (.cells #[.slice S m d, .slice L k f] 40)) := below_alloc (Nat.le_refl _) (below_alloc (Nat.le_refl _) (Below.refl _ _))
  have bx := (Box.new w 30 #[.slice A0 n0 c0, .slice A1 n1 c1]).alloc (.cells #[.slice S m d, .slice L k f] 40)
  have bl : Box ((w.alloc (.cells #[.slice A0 n0 c0, .slice A1 n1 c1] 30)).alloc (.cells #[.slice S m d, .slice L k f] 40)) (w.heap.size + 1) 40 #[.slice S m d, .slice L k f] := Box.new' (by simp)
  have q0 := bx.d0; have q1 := bx.d1; have p0 := bl.d0; have p1 := bl.d1
  have hn0 : n0 ≤ 256 := by have := hf.2.1; rw [HO.out] at this; exact this
  have H01 := Lib.hid (show n1 = n0 by rw [← HN.out, hf.2.2.1, HO.out])
  have HF := Lib.hid hf
  clear hf
  by_cases hm1 : m ≤ 256
  · by_cases hk1 : 1 ≤ k
    · by_cases hk2 : k ≤ 256
      · have HLN := Lib.hid (show z.1.length ≤ 256 ∧ 1 ≤ z.2.length ∧ z.2.length ≤ 256 by rw [HM.out, HK.out]; exact ⟨hm1, hk1, hk2⟩)
        have HAL := Lib.hid (show (lasAll z).length = m + k + 1 by unfold lasAll; simp [HM.out, HK.out]; omega)
        obtain ⟨bL, oL, rfl, hcL⟩ := hl.at_ (show 0 < k by omega)
        rw [Nat.add_zero] at hcL
        have hk1i : (1 : Int) ≤ (k : Int) := by omega
        have hk1n : 0 < k := by omega
        go_enter Try.func77, Try.ntmps77
        go_wp2_with fail
        refine wp_region_held_drew (S := fun w' => w'.cell? ⟨w.heap.size + 1, 0, none⟩ = some (.slice S m d) ∧ w'.cell? ⟨w.heap.size + 1, 1, none⟩ = some (.slice (some ⟨bL, oL, none⟩) k f)) (by kernel_rfl) ⟨p0, p1⟩ (fun hHeld => ?_)
        replace hba : Below w.heap.size w ((w.alloc (.cells #[.slice A0 n0 c0, .slice A1 n1 c1] 30)).alloc (.cells #[.slice S m d, .slice (some ⟨bL, oL, none⟩) k f] 40)).drew := Below.drew hba
        replace bx : Box ((w.alloc (.cells #[.slice A0 n0 c0, .slice A1 n1 c1] 30)).alloc (.cells #[.slice S m d, .slice (some ⟨bL, oL, none⟩) k f] 40)).drew _ _ _ := bx
        replace bl : Box ((w.alloc (.cells #[.slice A0 n0 c0, .slice A1 n1 c1] 30)).alloc (.cells #[.slice S m d, .slice (some ⟨bL, oL, none⟩) k f] 40)).drew _ _ _ := bl
        clear q0 q1 p0 p1
        generalize ((w.alloc (.cells #[.slice A0 n0 c0, .slice A1 n1 c1] 30)).alloc (.cells #[.slice S m d, .slice (some ⟨bL, oL, none⟩) k f] 40)).drew = W at *
        have sW := bl.lt
        have hem := OI.empty (E := 2) (w := W) (B := W.heap.size) (Nat.le_refl _)
        have hbE : Below W.heap.size W (W.alloc (.cells #[] 2)) := below_alloc (Nat.le_refl _) (Below.refl _ _)
        have hwE : Below w.heap.size w (W.alloc (.cells #[] 2)) := below_then hbE hba.size hba
        have blE := bl.below hbE bl.lt
        have bxE := bx.below hbE bx.lt
        refine takeH1 (v := ?_) (by kernel_rfl) (by kernel_rfl) (by kernel_rfl) (fun _ _ _ h => h) hHeld (by rfl) ?_ ?_
        rotate_left; · (intro w hSw; (try dsimp only at hSw); go_simp; try with_reducible rfl)
        try simp only [Act.put, List.setIfInBounds_toArray, List.set_cons_zero, List.set_cons_succ]
        refine takeH2 (v := ?_) (by kernel_rfl) (by kernel_rfl) (by kernel_rfl) (fun _ _ _ h => h) hHeld (by rfl) ?_ ?_
        rotate_left; · (intro w hSw; (try dsimp only at hSw); go_simp; try with_reducible rfl)
        try simp only [Act.put, List.setIfInBounds_toArray, List.set_cons_zero, List.set_cons_succ]
        refine takeH4 (v := ?_) (by kernel_rfl) (by kernel_rfl) (by kernel_rfl) (fun _ _ _ h => h) hHeld (by rfl) ?_ ?_
        rotate_left; · (intro w hSw; (try dsimp only at hSw); go_simp; try with_reducible rfl)
        try simp only [Act.put, List.setIfInBounds_toArray, List.set_cons_zero, List.set_cons_succ]
        refine takeH5 (v := ?_) (by kernel_rfl) (by kernel_rfl) (by kernel_rfl) (fun _ _ _ h => h) hHeld (by rfl) ?_ ?_
        rotate_left; · (intro w hSw; (try dsimp only at hSw); go_simp; try with_reducible rfl)
        try simp only [Act.put, List.setIfInBounds_toArray, List.set_cons_zero, List.set_cons_succ]
        refine callH0 (by kernel_rfl) (fun K hK => ?_)
        go_simp
        refine hK.out _ _ (⟨blE.d0, blE.d1⟩) (fun hHeld => ?_)
        clear hK K
        try simp only [Act.put, List.setIfInBounds_toArray, List.set_cons_zero, List.set_cons_succ]
        refine callH3 (by kernel_rfl) (fun K hK => ?_)
        refine step_of_list (by rfl) (wp_appI (.tmp 25) (.tmp 27) (by rfl) (W.alloc (.cells #[] 2)) W.heap.size (.slice (some ⟨W.heap.size, 0, none⟩) 0 0) [] (by rfl) hem S m d z.1 (by rfl) (hs.keep (keeps_below hwE)) (by simp) (by omega) hbE.size ?_)
        intro v2 w2 ho2 hb2' hc2 hat2
        rw [List.nil_append] at ho2
        clear hc2 hat2
        obtain ⟨A2, c2, rfl⟩ := ho2.form
        have hb2 : Below W.heap.size W w2 := hbE.trans hb2'
        have hw2 := below_then hb2 hba.size hba
        have bl2 := bl.below hb2 bl.lt
        refine hK.out _ _ (⟨bl2.d0, bl2.d1⟩) (fun hHeld => ?_)
        clear hK K
        try simp only [Act.put, List.setIfInBounds_toArray, List.set_cons_zero, List.set_cons_succ]
        refine callH6 (by kernel_rfl) (fun K hK => ?_)
        refine step_of_list (by rfl) (wp_appI (.tmp 28) (.tmp 30) (by rfl) w2 W.heap.size (.slice A2 z.1.length c2) z.1 (by rfl) ho2 (some ⟨bL, oL, none⟩) k f z.2 (by rfl) (hl.keep (keeps_below hw2)) (by rw [HM.out]; omega) (by omega) hb2.size ?_)
        intro v3 w3 ho3 hb3' hc3 hat3
        clear hc3 hat3
        generalize hZA : z.1 ++ z.2 = ZA at *
        have HZA := Lib.hid hZA
        have HZL := Lib.hid (show ZA.length = m + k by rw [← hZA, List.length_append, HM.out, HK.out])
        clear hZA
        obtain ⟨A3, c3, rfl⟩ := ho3.form
        have hb3 : Below W.heap.size W w3 := hb2.trans hb3'
        have hw3 := below_then hb3 hba.size hba
        have bl3 := bl.below hb3 bl.lt
        have bx3 := bx.below hb3 bx.lt
        refine hK.out _ _ (⟨bl3.d0, bl3.d1⟩) (fun hHeld => ?_)
        clear hK K
        try simp only [Act.put, List.setIfInBounds_toArray, List.set_cons_zero, List.set_cons_succ]
        refine takeH7 (v := ?_) (by kernel_rfl) (by kernel_rfl) (by kernel_rfl) (fun _ _ _ h => h) hHeld (by rfl) ?_ ?_
        rotate_left; · (intro w hSw; (try dsimp only at hSw); go_simp; try with_reducible rfl)
        try simp only [Act.put, List.setIfInBounds_toArray, List.set_cons_zero, List.set_cons_succ]
        refine wpAnyH_done (by kernel_rfl) ?_ _
        have hr3 := ho3.reads
        have hZ2 : ZA.length ≤ 512 := by have := HZL.out; omega
        have HEX := Lib.hid (show ∀ i, i < m + k → ¬ (0 ≤ gi ZA i ∧ gi ZA i < (n0 : Int)) → lasE o n z = false from fun i hi h => lasE_no (i := i) (by rw [HAL.out]; omega) (fun c => h (by
          have h1 := c.1
          rw [show lasAll z = ZA ++ [gi z.2 0] by rw [← HZA.out]; rfl, HO.out, gi_app_l (by rw [HZL.out]; exact hi)] at h1
          exact h1)))
        generalize hLL : ZA.length = LL at *
        have HLL := Lib.hid (show LL = m + k by rw [← HZL.out])
        have HLZ := Lib.hid hLL
        clear hLL HZL
        go_wp2
        go_loopw [34] (fun i wr => ∃ j : Nat, j ≤ LL ∧ i = .int .i64 j ∧ (∀ i, i < j → 0 ≤ gi ZA i ∧ gi ZA i < (n0 : Int)) ∧ Below w3.heap.size w3 wr) (fun i _ => LL - (intOf i).toNat)
        case atStart => exact ⟨0, Nat.zero_le _, rfl, fun i h => absurd h (by omega), Below.refl _ _⟩
        case round =>
          obtain ⟨j, hj, rfl, hall, hbr⟩ := hrel
          have HALL := Lib.hid hall
          clear hall
          have bxr := bx3.below hbr bx3.lt
          have hwr := below_then hbr hw3.size hw3
          by_cases hlt : j < LL
          · obtain ⟨b3, o3, rfl, hc3⟩ := hr3.at_ hlt
            have hcj := keeps_below hbr _ _ hc3
            have g0 := bxr.d0; have g1 := bxr.d1
            have hji : (j : Int) < (LL : Int) := by omega
            have hj0 : (0 : Int) ≤ (j : Int) := by omega
            cases hth : thereB (gi ZA j) n0 with
            | false =>
              have E := Lib.hid (HEX.out j (by have := HLL.out; omega) (of_decide_eq_false hth))
              have HTH := Lib.hid hth
              clear hth
              go_wp2_with fail
              refine (hasVertex _ _ _ _ _ _ _ _ _ (Nat.le_refl _) (by omega)).mono ?_; rintro e wt ⟨rfl, hbt⟩
              rw [HTH.out]
              go_wp2
              go_ret
              exact ⟨ret_b E.out.symm, (below_then hbt hwr.size hwr).mono hB⟩
            | true =>
              have HAT := Lib.hid (show 0 ≤ gi ZA j ∧ gi ZA j < (n0 : Int) from of_decide_eq_true hth)
              have HTH := Lib.hid hth
              clear hth
              go_wp2_with fail
              refine (hasVertex _ _ _ _ _ _ _ _ _ (Nat.le_refl _) (by omega)).mono ?_; rintro e wt ⟨rfl, hbt⟩
              rw [HTH.out]
              go_wp2
              go_roundw
              case rel => exact ⟨j + 1, by omega, by go_num, all_succ HALL.out HAT.out, below_then hbt hbr.size hbr⟩
              case measure => simp [intOf]; omega
          · obtain rfl : j = LL := by omega
            have blr := bl3.below hbr bl3.lt
            have p0 := blr.d0; have p1 := blr.d1
            have hcLr := keeps_below hwr _ _ hcL
            have hor := ho3.below hbr
            have sr : W.heap.size ≤ wr.heap.size := by have := hb3.size; have := hbr.size; omega
            go_wp2_with (at_builtin; refine wpList_pushI rfl (.tmp 43) (.tmp 48) rfl _ W.heap.size _ ZA (by rfl) hor _ (by rfl) (by rw [HLZ.out]; omega) sr ?_; intro v9 w9 ho9 hb9 hc9 hat9)
            clear hc9 hat9
            generalize hLA : ZA ++ [gi z.2 0] = LA at *
            have HLA := Lib.hid (show LA = lasAll z by rw [← hLA, ← HZA.out]; rfl)
            have HGA := Lib.hid (show ∀ i, i < m + k → gi LA i = gi ZA i from fun i hi => by rw [← hLA]; exact gi_app_l (by rw [HLZ.out, HLL.out]; exact hi))
            have HGE := Lib.hid (show gi LA (m + k) = gi z.2 0 by
              rw [← hLA, ← HLL.out, ← HLZ.out]
              exact gi_app_e)
            clear hLA
            obtain ⟨A9, c9, rfl⟩ := ho9.form
            have hw9 : Below w.heap.size w w9 := hwr.trans (hb9.mono (by have := hba.size; omega))
            have bx9 := bxr.below hb9 (by omega)
            have hl9 : LA.length = m + k + 1 := by rw [HLA.out]; exact HAL.out
            have HTA := Lib.hid (show ∀ i, i < m + k + 1 → 0 ≤ gi LA i ∧ gi LA i < (n0 : Int) from fun i hi => by
              by_cases e : i = m + k
              · have h1 := HALL.out m (by have := HLL.out; omega)
                rw [e, HGE.out]
                rw [← HZA.out] at h1
                have h2 : gi (z.1 ++ z.2) m = gi z.2 0 := gi_app_r HM.out
                rw [h2] at h1
                exact h1
              · rw [HGA.out i (by omega)]
                exact HALL.out i (by have := HLL.out; omega))
            have HE := Lib.hid (show (∀ i, i < LA.length → lasAt o n LA i) → lasE o n z = true from fun h => lasE_yes HLN.out (by rw [← HLA.out]; exact h))
            have HX := Lib.hid (show ∀ i, i < LA.length → ¬ lasAt o n LA i → lasE o n z = false from fun i hi h => lasE_no (by rw [← HLA.out]; exact hi) (by rw [← HLA.out]; exact h))
            have HL9 := Lib.hid hl9
            have hr9 := ho9.reads
            have hl9a : LA.length ≤ 513 := by omega
            have hl9b : 2 ≤ LA.length := by omega
            clear hl9 HLA HLZ hor ho9 hr3 p0 p1 HALL HEX HGA HGE
            generalize hLL : LA.length = NN at *
            clear hLL
            go_wp2
            go_loopw [8] (fun i wr => ∃ j : Nat, 1 ≤ j ∧ j ≤ NN ∧ i = .int .i64 j ∧ (∀ i, i < j → lasAt o n LA i) ∧ Below w9.heap.size w9 wr) (fun i _ => NN - (intOf i).toNat)
            case atStart => exact ⟨1, Nat.le_refl _, by omega, rfl, fun i h => ⟨by rw [HO.out]; exact HTA.out i (by omega), fun h2 => absurd h2 (by omega)⟩, Below.refl _ _⟩
            case round =>
              clear hbr bxr hwr
              obtain ⟨j, hj1, hj, rfl, hall, hbr⟩ := hrel
              have HALL := Lib.hid hall
              clear hall
              have bxr := bx9.below hbr bx9.lt
              have hwr := below_then hbr hw9.size hw9
              by_cases hlt : j < NN
              · obtain ⟨b9, o9, rfl, hc9⟩ := hr9.at_ hlt
                have hcj := keeps_below hbr _ _ hc9
                have g0 := bxr.d0; have g1 := bxr.d1
                have hji : (j : Int) < (NN : Int) := by omega
                have hj0 : (0 : Int) ≤ (j : Int) := by omega
                have hp1 := HTA.out (j - 1) (by have := HL9.out; omega)
                have hth2 := HTA.out j (by have := HL9.out; omega)
                obtain ⟨u, hu⟩ := Int.eq_ofNat_of_zero_le hp1.1
                have hun : u < n1 := by have := H01.out; omega
                have HU := Lib.hid hu
                obtain ⟨b9', o9', e9, hcp⟩ := hr9.at_ (i := j - 1) (by omega)
                injection e9 with e9
                injection e9 with e91 e92
                subst e91; subst e92
                have hcq := keeps_below hbr _ _ hcp
                rw [hu] at hcq
                obtain ⟨bn, on, An, nn, cn, rfl, hcN, rn⟩ := hb.at_ hun
                have hcn := keeps_below hwr _ _ hcN
                have hrow := rn.keep (keeps_below hwr)
                have e3 : ((j : Int) - 1).toNat = j - 1 := by omega
                have hjp : (0 : Int) < (j : Int) := by omega
                have hjn : 0 < j := by omega
                have hjm : (j : Int) - 1 < (NN : Int) := by omega
                have hjq : (1 : Int) ≤ (j : Int) := by omega
                have hui : (u : Int) < (n1 : Int) := by omega
                have hu0 : (0 : Int) ≤ (u : Int) := by omega
                clear hu hp1
                cases hh : hasL (gl n u) (gi LA j) with
                | false =>
                  have E := Lib.hid (HX.out j hlt (fun h => by have := h.2 (by omega); rw [HU.out, Int.toNat_natCast, hh] at this; cases this))
                  have HH := Lib.hid hh
                  clear hh
                  have ew : IntKind.i64.wrap ((j : Int) - 1) = (j : Int) - 1 := IntWalk.i64_in _ (by omega)
                  go_wp2_with fail
                  refine wp_region_held_drew (S := fun w' => w'.cell? ⟨w.heap.size, 0, none⟩ = some (.slice A0 n0 c0) ∧ w'.cell? ⟨w.heap.size, 1, none⟩ = some (.slice (some ⟨bn, on, none⟩) n1 c1) ∧ w'.cell? ⟨b9, o9 + j, none⟩ = some (.int .i64 (gi LA j)) ∧ w'.cell? ⟨b9, o9 + (j - 1), none⟩ = some (.int .i64 (u : Int)) ∧ w'.cell? ⟨bn, on + u, none⟩ = some (.slice An nn cn)) (by kernel_rfl) (⟨g0, g1, hcj, hcq, hcn⟩) (fun hHeld => ?_)
                  refine takeH0 (v := ?_) (by kernel_rfl) (by kernel_rfl) (by kernel_rfl) (fun _ _ _ h => h) hHeld (by rfl) ?_ ?_
                  rotate_left; · (intro w hSw; (try dsimp only at hSw); go_simp; try with_reducible rfl)
                  try simp only [Act.put, List.setIfInBounds_toArray, List.set_cons_zero, List.set_cons_succ]
                  refine takeH1 (v := ?_) (by kernel_rfl) (by kernel_rfl) (by kernel_rfl) (fun _ _ _ h => h) hHeld (by rfl) ?_ ?_
                  rotate_left; · (intro w hSw; (try dsimp only at hSw); go_simp; try with_reducible rfl)
                  try simp only [Act.put, List.setIfInBounds_toArray, List.set_cons_zero, List.set_cons_succ]
                  refine takeH2 (v := ?_) (by kernel_rfl) (by kernel_rfl) (by kernel_rfl) (fun _ _ _ h => h) hHeld (by rfl) ?_ ?_
                  rotate_left; · (intro w hSw; (try dsimp only at hSw); go_simp; try with_reducible rfl)
                  try simp only [Act.put, List.setIfInBounds_toArray, List.set_cons_zero, List.set_cons_succ]
                  refine takeH3 (v := ?_) (by kernel_rfl) (by kernel_rfl) (by kernel_rfl) (fun _ _ _ h => h) hHeld (by rfl) ?_ ?_
                  rotate_left; · (intro w hSw; (try dsimp only at hSw); go_simp; try with_reducible rfl)
                  try simp only [Act.put, List.setIfInBounds_toArray, List.set_cons_zero, List.set_cons_succ]
                  refine takeH4 (v := ?_) (by kernel_rfl) (by kernel_rfl) (by kernel_rfl) (fun _ _ _ h => h) hHeld (by rfl) ?_ ?_
                  rotate_left; · (intro w hSw; (try dsimp only at hSw); go_simp; try with_reducible rfl)
                  try simp only [Act.put, List.setIfInBounds_toArray, List.set_cons_zero, List.set_cons_succ]
                  refine takeH5 (v := ?_) (by kernel_rfl) (by kernel_rfl) (by kernel_rfl) (fun _ _ _ h => h) hHeld (by rfl) ?_ ?_
                  rotate_left; · (intro w hSw; (try dsimp only at hSw); go_simp; try with_reducible rfl)
                  try simp only [Act.put, List.setIfInBounds_toArray, List.set_cons_zero, List.set_cons_succ]
                  refine takeH6 (v := ?_) (by kernel_rfl) (by kernel_rfl) (by kernel_rfl) (fun _ _ _ h => h) hHeld (by rfl) ?_ ?_
                  rotate_left; · (intro w hSw; (try dsimp only at hSw); go_simp; try with_reducible rfl)
                  try simp only [Act.put, List.setIfInBounds_toArray, List.set_cons_zero, List.set_cons_succ]
                  refine takeH7 (v := ?_) (by kernel_rfl) (by kernel_rfl) (by kernel_rfl) (fun _ _ _ h => h) hHeld (by rfl) ?_ ?_
                  rotate_left; · (intro w hSw; (try dsimp only at hSw); go_simp; try with_reducible rfl)
                  try simp only [Act.put, List.setIfInBounds_toArray, List.set_cons_zero, List.set_cons_succ]
                  refine takeH8 (v := ?_) (by kernel_rfl) (by kernel_rfl) (by kernel_rfl) (fun _ _ _ h => h) hHeld (by rfl) ?_ ?_
                  rotate_left; · (intro w hSw; (try dsimp only at hSw); go_simp; try with_reducible rfl)
                  try simp only [Act.put, List.setIfInBounds_toArray, List.set_cons_zero, List.set_cons_succ]
                  refine takeH9 (v := ?_) (by kernel_rfl) (by kernel_rfl) (by kernel_rfl) (fun _ _ _ h => h) hHeld (by rfl) ?_ ?_
                  rotate_left; · (intro w hSw; (try dsimp only at hSw); go_simp; try with_reducible rfl)
                  try simp only [Act.put, List.setIfInBounds_toArray, List.set_cons_zero, List.set_cons_succ]
                  refine takeH10 (v := ?_) (by kernel_rfl) (by kernel_rfl) (by kernel_rfl) (fun _ _ _ h => h) hHeld (by rfl) ?_ ?_
                  rotate_left; · (intro w hSw; (try dsimp only at hSw); go_simp; try with_reducible rfl)
                  try simp only [Act.put, List.setIfInBounds_toArray, List.set_cons_zero, List.set_cons_succ]
                  refine takeH11 (v := ?_) (by kernel_rfl) (by kernel_rfl) (by kernel_rfl) (fun _ _ _ h => h) hHeld (by rfl) ?_ ?_
                  rotate_left; · (intro w hSw; (try dsimp only at hSw); go_simp; try with_reducible rfl)
                  try simp only [Act.put, List.setIfInBounds_toArray, List.set_cons_zero, List.set_cons_succ]
                  refine takeH12 (v := ?_) (by kernel_rfl) (by kernel_rfl) (by kernel_rfl) (fun _ _ _ h => h) hHeld (by rfl) ?_ ?_
                  rotate_left; · (intro w hSw; (try dsimp only at hSw); go_simp; try with_reducible rfl)
                  try simp only [Act.put, List.setIfInBounds_toArray, List.set_cons_zero, List.set_cons_succ]
                  refine callH13 (by kernel_rfl) (fun K hK => ?_)
                  go_simp
                  go_at_call 145
                  refine (slContains _ _ _ _ _ _ (hrow.keep (keeps_below (Below.drew (Below.refl wr.heap.size wr))))).mono ?_; rintro e wh ⟨rfl, qh⟩
                  rw [HH.out]
                  have hbh := below_qt qh (Below.drew (Below.refl wr.heap.size wr))
                  have bxh := bxr.below hbh bxr.lt
                  have h1 := keeps_below hbh _ _ hcj
                  have h2 := keeps_below hbh _ _ hcq
                  have h3 := keeps_below hbh _ _ hcn
                  go_wp2_with fail
                  refine hK.out _ _ (⟨bxh.d0, bxh.d1, h1, h2, h3⟩) (fun hHeld => ?_)
                  clear hK K
                  try simp only [Act.put, List.setIfInBounds_toArray, List.set_cons_zero, List.set_cons_succ]
                  refine takeH14 (v := ?_) (by kernel_rfl) (by kernel_rfl) (by kernel_rfl) (fun _ _ _ h => h) hHeld (by rfl) ?_ ?_
                  rotate_left; · (intro w hSw; (try dsimp only at hSw); go_simp; try with_reducible rfl)
                  try simp only [Act.put, List.setIfInBounds_toArray, List.set_cons_zero, List.set_cons_succ]
                  refine wpAnyH_done (by kernel_rfl) ?_ _
                  clear ew
                  go_wp2
                  go_ret
                  exact ⟨ret_b E.out.symm, (below_then hbh hwr.size hwr).mono hB⟩
                | true =>
                  have HAT := Lib.hid (show lasAt o n LA j from ⟨by rw [HO.out]; exact hth2, fun _ => by rw [HU.out, Int.toNat_natCast]; exact hh⟩)
                  have HH := Lib.hid hh
                  clear hh
                  have ew : IntKind.i64.wrap ((j : Int) - 1) = (j : Int) - 1 := IntWalk.i64_in _ (by omega)
                  go_wp2_with fail
                  refine wp_region_held_drew (S := fun w' => w'.cell? ⟨w.heap.size, 0, none⟩ = some (.slice A0 n0 c0) ∧ w'.cell? ⟨w.heap.size, 1, none⟩ = some (.slice (some ⟨bn, on, none⟩) n1 c1) ∧ w'.cell? ⟨b9, o9 + j, none⟩ = some (.int .i64 (gi LA j)) ∧ w'.cell? ⟨b9, o9 + (j - 1), none⟩ = some (.int .i64 (u : Int)) ∧ w'.cell? ⟨bn, on + u, none⟩ = some (.slice An nn cn)) (by kernel_rfl) (⟨g0, g1, hcj, hcq, hcn⟩) (fun hHeld => ?_)
                  refine takeH0 (v := ?_) (by kernel_rfl) (by kernel_rfl) (by kernel_rfl) (fun _ _ _ h => h) hHeld (by rfl) ?_ ?_
                  rotate_left; · (intro w hSw; (try dsimp only at hSw); go_simp; try with_reducible rfl)
                  try simp only [Act.put, List.setIfInBounds_toArray, List.set_cons_zero, List.set_cons_succ]
                  refine takeH1 (v := ?_) (by kernel_rfl) (by kernel_rfl) (by kernel_rfl) (fun _ _ _ h => h) hHeld (by rfl) ?_ ?_
                  rotate_left; · (intro w hSw; (try dsimp only at hSw); go_simp; try with_reducible rfl)
                  try simp only [Act.put, List.setIfInBounds_toArray, List.set_cons_zero, List.set_cons_succ]
                  refine takeH2 (v := ?_) (by kernel_rfl) (by kernel_rfl) (by kernel_rfl) (fun _ _ _ h => h) hHeld (by rfl) ?_ ?_
                  rotate_left; · (intro w hSw; (try dsimp only at hSw); go_simp; try with_reducible rfl)
                  try simp only [Act.put, List.setIfInBounds_toArray, List.set_cons_zero, List.set_cons_succ]
                  refine takeH3 (v := ?_) (by kernel_rfl) (by kernel_rfl) (by kernel_rfl) (fun _ _ _ h => h) hHeld (by rfl) ?_ ?_
                  rotate_left; · (intro w hSw; (try dsimp only at hSw); go_simp; try with_reducible rfl)
                  try simp only [Act.put, List.setIfInBounds_toArray, List.set_cons_zero, List.set_cons_succ]
                  refine takeH4 (v := ?_) (by kernel_rfl) (by kernel_rfl) (by kernel_rfl) (fun _ _ _ h => h) hHeld (by rfl) ?_ ?_
                  rotate_left; · (intro w hSw; (try dsimp only at hSw); go_simp; try with_reducible rfl)
                  try simp only [Act.put, List.setIfInBounds_toArray, List.set_cons_zero, List.set_cons_succ]
                  refine takeH5 (v := ?_) (by kernel_rfl) (by kernel_rfl) (by kernel_rfl) (fun _ _ _ h => h) hHeld (by rfl) ?_ ?_
                  rotate_left; · (intro w hSw; (try dsimp only at hSw); go_simp; try with_reducible rfl)
                  try simp only [Act.put, List.setIfInBounds_toArray, List.set_cons_zero, List.set_cons_succ]
                  refine takeH6 (v := ?_) (by kernel_rfl) (by kernel_rfl) (by kernel_rfl) (fun _ _ _ h => h) hHeld (by rfl) ?_ ?_
                  rotate_left; · (intro w hSw; (try dsimp only at hSw); go_simp; try with_reducible rfl)
                  try simp only [Act.put, List.setIfInBounds_toArray, List.set_cons_zero, List.set_cons_succ]
                  refine takeH7 (v := ?_) (by kernel_rfl) (by kernel_rfl) (by kernel_rfl) (fun _ _ _ h => h) hHeld (by rfl) ?_ ?_
                  rotate_left; · (intro w hSw; (try dsimp only at hSw); go_simp; try with_reducible rfl)
                  try simp only [Act.put, List.setIfInBounds_toArray, List.set_cons_zero, List.set_cons_succ]
                  refine takeH8 (v := ?_) (by kernel_rfl) (by kernel_rfl) (by kernel_rfl) (fun _ _ _ h => h) hHeld (by rfl) ?_ ?_
                  rotate_left; · (intro w hSw; (try dsimp only at hSw); go_simp; try with_reducible rfl)
                  try simp only [Act.put, List.setIfInBounds_toArray, List.set_cons_zero, List.set_cons_succ]
                  refine takeH9 (v := ?_) (by kernel_rfl) (by kernel_rfl) (by kernel_rfl) (fun _ _ _ h => h) hHeld (by rfl) ?_ ?_
                  rotate_left; · (intro w hSw; (try dsimp only at hSw); go_simp; try with_reducible rfl)
                  try simp only [Act.put, List.setIfInBounds_toArray, List.set_cons_zero, List.set_cons_succ]
                  refine takeH10 (v := ?_) (by kernel_rfl) (by kernel_rfl) (by kernel_rfl) (fun _ _ _ h => h) hHeld (by rfl) ?_ ?_
                  rotate_left; · (intro w hSw; (try dsimp only at hSw); go_simp; try with_reducible rfl)
                  try simp only [Act.put, List.setIfInBounds_toArray, List.set_cons_zero, List.set_cons_succ]
                  refine takeH11 (v := ?_) (by kernel_rfl) (by kernel_rfl) (by kernel_rfl) (fun _ _ _ h => h) hHeld (by rfl) ?_ ?_
                  rotate_left; · (intro w hSw; (try dsimp only at hSw); go_simp; try with_reducible rfl)
                  try simp only [Act.put, List.setIfInBounds_toArray, List.set_cons_zero, List.set_cons_succ]
                  refine takeH12 (v := ?_) (by kernel_rfl) (by kernel_rfl) (by kernel_rfl) (fun _ _ _ h => h) hHeld (by rfl) ?_ ?_
                  rotate_left; · (intro w hSw; (try dsimp only at hSw); go_simp; try with_reducible rfl)
                  try simp only [Act.put, List.setIfInBounds_toArray, List.set_cons_zero, List.set_cons_succ]
                  refine callH13 (by kernel_rfl) (fun K hK => ?_)
                  go_simp
                  go_at_call 145
                  refine (slContains _ _ _ _ _ _ (hrow.keep (keeps_below (Below.drew (Below.refl wr.heap.size wr))))).mono ?_; rintro e wh ⟨rfl, qh⟩
                  rw [HH.out]
                  have hbh := below_qt qh (Below.drew (Below.refl wr.heap.size wr))
                  have bxh := bxr.below hbh bxr.lt
                  have h1 := keeps_below hbh _ _ hcj
                  have h2 := keeps_below hbh _ _ hcq
                  have h3 := keeps_below hbh _ _ hcn
                  go_wp2_with fail
                  refine hK.out _ _ (⟨bxh.d0, bxh.d1, h1, h2, h3⟩) (fun hHeld => ?_)
                  clear hK K
                  try simp only [Act.put, List.setIfInBounds_toArray, List.set_cons_zero, List.set_cons_succ]
                  refine takeH14 (v := ?_) (by kernel_rfl) (by kernel_rfl) (by kernel_rfl) (fun _ _ _ h => h) hHeld (by rfl) ?_ ?_
                  rotate_left; · (intro w hSw; (try dsimp only at hSw); go_simp; try with_reducible rfl)
                  try simp only [Act.put, List.setIfInBounds_toArray, List.set_cons_zero, List.set_cons_succ]
                  refine wpAnyH_done (by kernel_rfl) ?_ _
                  clear ew
                  go_wp2
                  go_roundw
                  case rel => exact ⟨j + 1, by omega, by omega, by go_num, all_succ HALL.out HAT.out, below_then hbh hbr.size hbr⟩
                  case measure => simp [intOf]; omega
              · obtain rfl : j = NN := by omega
                have E := Lib.hid (HE.out HALL.out)
                go_wp2
                go_ret
                exact ⟨ret_b E.out.symm, hwr.mono hB⟩
      · have E := Lib.hid (show lasE o n z = false from lasE_len (by rw [HM.out, HK.out]; omega))
        go_enter Try.func77, Try.ntmps77
        go_wp2
        go_ret
        exact ⟨ret_b E.out.symm, hba.mono hB⟩
    · have E := Lib.hid (show lasE o n z = false from lasE_len (by rw [HM.out, HK.out]; omega))
      go_enter Try.func77, Try.ntmps77
      go_wp2
      go_ret
      exact ⟨ret_b E.out.symm, hba.mono hB⟩
  · have E := Lib.hid (show lasE o n z = false from lasE_len (by rw [HM.out, HK.out]; omega))
    go_enter Try.func77, Try.ntmps77
    go_wp2
    go_ret
    exact ⟨ret_b E.out.symm, hba.mono hB⟩

set_option maxRecDepth 100000 in
set_option maxHeartbeats 1600000 in
theorem metBy (S L : Option Addr) (m d k f : Nat) (z : TwoD) (w : World) (B : Nat) (hB : B ≤ w.heap.size) (hl : RI w L k f z.2) (hk : k ≤ 1048576) (hk1 : 1 ≤ k) :
    Calls Try.prog 83 #[.agg #[.slice S m d, .slice L k f]] w fun e w' => ∃ v, e = .returned v ∧ OI 2 w' B v (compL (sortL z.2)) ∧ Below B w w' := by
  have b3 := hl.cap; have b4 := hl.top
  have hba : Below w.heap.size w (w.alloc (.cells #[.slice S m d, .slice L k f] 40)) := below_alloc (Nat.le_refl _) (Below.refl _ _)
  have bl : Box (w.alloc (.cells #[.slice S m d, .slice L k f] 40)) w.heap.size 40 #[.slice S m d, .slice L k f] := Box.new _ _ _
  have p0 := bl.d0; have p1 := bl.d1
  have hem := OI.empty (E := 2) (w := (w.alloc (.cells #[.slice S m d, .slice L k f] 40))) (B := w.heap.size + 1) (by simp)
  rw [show (w.alloc (.cells #[.slice S m d, .slice L k f] 40)).heap.size = w.heap.size + 1 by simp] at hem
  have hbE : Below w.heap.size w ((w.alloc (.cells #[.slice S m d, .slice L k f] 40)).alloc (.cells #[] 2)) := below_alloc (by simp) hba
  have k1 : ∀ q, ((w.alloc (.cells #[.slice S m d, .slice L k f] 40)).alloc q).cell? ⟨w.heap.size, 1, none⟩ = some (.slice L k f) := fun q => keepA p1
  have hx : w.heap.size < (w.alloc (.cells #[.slice S m d, .slice L k f] 40)).heap.size := bl.lt
  go_enter Try.func83, Try.ntmps83
  go_wp2_with (at_builtin; go_loud (refine wpList_appI rfl (.tmp 4) (.tmp 6) rfl _ (w.heap.size + 1) _ [] rfl hem _ _ _ z.2 rfl (hl.keep (keeps_below hbE)) (by simp) (by omega) (by first | (simp; done) | (simp; omega)) ?_); intro v0 w1 ho1 hb1' hc1 hat1)
  rw [List.nil_append] at ho1
  clear hc1 hat1 hem k1
  have hw1 : Below w.heap.size w w1 := hbE.trans (hb1'.mono (by omega))
  obtain ⟨A1, c1, rfl⟩ := ho1.form
  · obtain ⟨g1, c1', e1⟩ := ho1.form2 (by rw [hl.len]; omega)
    injection e1 with e1 _ e2
    subst e1; subst e2
    have hzl : z.2.length ≤ 4194304 := by rw [hl.len]; omega
    go_wp2_with fail
    refine (slicesSort _ ho1 hzl).mono ?_; rintro e w2 ⟨rfl, ho2, hc2⟩
    have hg1 := (ho1.lt g1 rfl).1
    have hw2 : Below w.heap.size w w2 := hw1.trans (hc2.below hw1.size (fun x hx => by have h3 : x = g1 := hx; omega))
    have ho3 : OI 2 w2 (w.heap.size + 1) (.slice (some ⟨g1, 0, none⟩) (sortL z.2).length c1) (sortL z.2) := by rw [sortL_len]; exact ho2
    have SL := Lib.hid (sortL_len z.2)
    go_wp2_with fail
    refine ((show ∀ w', OI 2 w' (w.heap.size + 1) (.slice (some ⟨g1, 0, none⟩) (sortL z.2).length c1) (sortL z.2) → Calls Try.prog 141 #[.slice (some ⟨g1, 0, none⟩) z.2.length c1] w' fun e w1 => e = .returned (.slice (some ⟨g1, 0, none⟩) (compL (sortL z.2)).length c1) ∧ OI 2 w1 (w.heap.size + 1) (.slice (some ⟨g1, 0, none⟩) (compL (sortL z.2)).length c1) (compL (sortL z.2)) ∧ Chg (fun b => b = g1) w' w1 from fun w' h' => by have h2 := slicesCompact w' h'; rwa [SL.out] at h2) _ (by exact ho3)).mono ?_
    rintro e w3 ⟨rfl, ho4, hc3⟩
    go_wp2
    go_ret
    exact ⟨.slice (some ⟨g1, 0, none⟩) (compL (sortL z.2)).length c1, rfl, ho4.more (Nat.le_succ_of_le hB), (hw2.trans (hc3.below hw2.size (fun x hx => by have h3 : x = g1 := hx; omega))).mono hB⟩
end Go.Proofs.Ytlmhhnplacejkaa
