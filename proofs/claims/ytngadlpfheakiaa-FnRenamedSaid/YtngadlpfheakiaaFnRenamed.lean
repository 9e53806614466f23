/- FnRenamed: for every input the law returns true, and the argument reads as it read before. No condition. -/
import Derived.Test.YtngadlpfheakiaaOpenY
import Derived.Test.YtngadlpfheakiaaParP
import Derived.Test.YtngadlpfheakiaaJoinL
import Derived.Test.YtngadlpfheakiaaSolH
import Derived.Test.YtngadlpfheakiaaRen1
import Derived.Test.YtngadlpfheakiaaSame
import Derived.Test.YtngadlpfheakiaaJoined
import Derived.Test.YtngadlpfheakiaaCut
import Derived.Deep.DeepCutAuto
namespace Go.Proofs.Ytngadlpfheakiaa.fnRenamed
open Go.ChangeShapes Go.WideShapes Go.ChangeAt Go.RowKit

theorem twoH_0_6 {P : Program} {Q : Exit → Act → World → Prop} {md : Region.Mode} {S : World → Prop} {fuel : Nat} {listed : Array Bool} {a : Act} {w : World} {o0 o1 o2 o3 o4 o5 o6 : Oper} {r : List Oper} (hr : Region.ready md (List.toArray (o0 :: o1 :: o2 :: o3 :: o4 :: o5 :: o6 :: r)) listed = [0, 6])
    (h1 : ∀ K' : Act → World → Prop, Shut (∀ a w, S w → (S w → wpAnyH P md (List.toArray (o0 :: o1 :: o2 :: o3 :: o4 :: o5 :: o6 :: r)) Q S fuel (listed.setIfInBounds 0 true) a w) → K' a w) → if Region.wanted o0 (yielded (List.toArray (o0 :: o1 :: o2 :: o3 :: o4 :: o5 :: o6 :: r)) a.tmps) = true then Oper.wp P o0 a w K' Q else K' (a.put o0.dst undef) w) (h2 : ∀ K' : Act → World → Prop, Shut (∀ a w, S w → (S w → wpAnyH P md (List.toArray (o0 :: o1 :: o2 :: o3 :: o4 :: o5 :: o6 :: r)) Q S fuel (listed.setIfInBounds 6 true) a w) → K' a w) → if Region.wanted o6 (yielded (List.toArray (o0 :: o1 :: o2 :: o3 :: o4 :: o5 :: o6 :: r)) a.tmps) = true then Oper.wp P o6 a w K' Q else K' (a.put o6.dst undef) w) : wpAnyH P md (List.toArray (o0 :: o1 :: o2 :: o3 :: o4 :: o5 :: o6 :: r)) Q S (fuel + 1) listed a w :=
  wpAnyH_ready (rs := [0, 6]) hr (by simp) (AllReadyH.cons rfl h1 (AllReadyH.cons rfl h2 AllReadyH.nil))
theorem twoH_4_6 {P : Program} {Q : Exit → Act → World → Prop} {md : Region.Mode} {S : World → Prop} {fuel : Nat} {listed : Array Bool} {a : Act} {w : World} {o0 o1 o2 o3 o4 o5 o6 : Oper} {r : List Oper} (hr : Region.ready md (List.toArray (o0 :: o1 :: o2 :: o3 :: o4 :: o5 :: o6 :: r)) listed = [4, 6])
    (h1 : ∀ K' : Act → World → Prop, Shut (∀ a w, S w → (S w → wpAnyH P md (List.toArray (o0 :: o1 :: o2 :: o3 :: o4 :: o5 :: o6 :: r)) Q S fuel (listed.setIfInBounds 4 true) a w) → K' a w) → if Region.wanted o4 (yielded (List.toArray (o0 :: o1 :: o2 :: o3 :: o4 :: o5 :: o6 :: r)) a.tmps) = true then Oper.wp P o4 a w K' Q else K' (a.put o4.dst undef) w) (h2 : ∀ K' : Act → World → Prop, Shut (∀ a w, S w → (S w → wpAnyH P md (List.toArray (o0 :: o1 :: o2 :: o3 :: o4 :: o5 :: o6 :: r)) Q S fuel (listed.setIfInBounds 6 true) a w) → K' a w) → if Region.wanted o6 (yielded (List.toArray (o0 :: o1 :: o2 :: o3 :: o4 :: o5 :: o6 :: r)) a.tmps) = true then Oper.wp P o6 a w K' Q else K' (a.put o6.dst undef) w) : wpAnyH P md (List.toArray (o0 :: o1 :: o2 :: o3 :: o4 :: o5 :: o6 :: r)) Q S (fuel + 1) listed a w :=
  wpAnyH_ready (rs := [4, 6]) hr (by simp) (AllReadyH.cons rfl h1 (AllReadyH.cons rfl h2 AllReadyH.nil))
theorem twoH_2_7 {P : Program} {Q : Exit → Act → World → Prop} {md : Region.Mode} {S : World → Prop} {fuel : Nat} {listed : Array Bool} {a : Act} {w : World} {o0 o1 o2 o3 o4 o5 o6 o7 : Oper} {r : List Oper} (hr : Region.ready md (List.toArray (o0 :: o1 :: o2 :: o3 :: o4 :: o5 :: o6 :: o7 :: r)) listed = [2, 7])
    (h1 : ∀ K' : Act → World → Prop, Shut (∀ a w, S w → (S w → wpAnyH P md (List.toArray (o0 :: o1 :: o2 :: o3 :: o4 :: o5 :: o6 :: o7 :: r)) Q S fuel (listed.setIfInBounds 2 true) a w) → K' a w) → if Region.wanted o2 (yielded (List.toArray (o0 :: o1 :: o2 :: o3 :: o4 :: o5 :: o6 :: o7 :: r)) a.tmps) = true then Oper.wp P o2 a w K' Q else K' (a.put o2.dst undef) w) (h2 : ∀ K' : Act → World → Prop, Shut (∀ a w, S w → (S w → wpAnyH P md (List.toArray (o0 :: o1 :: o2 :: o3 :: o4 :: o5 :: o6 :: o7 :: r)) Q S fuel (listed.setIfInBounds 7 true) a w) → K' a w) → if Region.wanted o7 (yielded (List.toArray (o0 :: o1 :: o2 :: o3 :: o4 :: o5 :: o6 :: o7 :: r)) a.tmps) = true then Oper.wp P o7 a w K' Q else K' (a.put o7.dst undef) w) : wpAnyH P md (List.toArray (o0 :: o1 :: o2 :: o3 :: o4 :: o5 :: o6 :: o7 :: r)) Q S (fuel + 1) listed a w :=
  wpAnyH_ready (rs := [2, 7]) hr (by simp) (AllReadyH.cons rfl h1 (AllReadyH.cons rfl h2 AllReadyH.nil))
theorem twoH_3_7 {P : Program} {Q : Exit → Act → World → Prop} {md : Region.Mode} {S : World → Prop} {fuel : Nat} {listed : Array Bool} {a : Act} {w : World} {o0 o1 o2 o3 o4 o5 o6 o7 : Oper} {r : List Oper} (hr : Region.ready md (List.toArray (o0 :: o1 :: o2 :: o3 :: o4 :: o5 :: o6 :: o7 :: r)) listed = [3, 7])
    (h1 : ∀ K' : Act → World → Prop, Shut (∀ a w, S w → (S w → wpAnyH P md (List.toArray (o0 :: o1 :: o2 :: o3 :: o4 :: o5 :: o6 :: o7 :: r)) Q S fuel (listed.setIfInBounds 3 true) a w) → K' a w) → if Region.wanted o3 (yielded (List.toArray (o0 :: o1 :: o2 :: o3 :: o4 :: o5 :: o6 :: o7 :: r)) a.tmps) = true then Oper.wp P o3 a w K' Q else K' (a.put o3.dst undef) w) (h2 : ∀ K' : Act → World → Prop, Shut (∀ a w, S w → (S w → wpAnyH P md (List.toArray (o0 :: o1 :: o2 :: o3 :: o4 :: o5 :: o6 :: o7 :: r)) Q S fuel (listed.setIfInBounds 7 true) a w) → K' a w) → if Region.wanted o7 (yielded (List.toArray (o0 :: o1 :: o2 :: o3 :: o4 :: o5 :: o6 :: o7 :: r)) a.tmps) = true then Oper.wp P o7 a w K' Q else K' (a.put o7.dst undef) w) : wpAnyH P md (List.toArray (o0 :: o1 :: o2 :: o3 :: o4 :: o5 :: o6 :: o7 :: r)) Q S (fuel + 1) listed a w :=
  wpAnyH_ready (rs := [3, 7]) hr (by simp) (AllReadyH.cons rfl h1 (AllReadyH.cons rfl h2 AllReadyH.nil))
theorem oi_some {w : World} {lo : Nat} {v : Value} {xs : List Int} (h : OI 2 w lo v xs) (hx : xs ≠ []) : ∃ g c, v = .slice (some ⟨g, 0, none⟩) xs.length c := by
  rcases h.2 with ⟨_, hn⟩ | ⟨g, cap, cur, e, _⟩
  · exact absurd (List.length_eq_zero_iff.1 hn) hx
  · exact ⟨g, cap, e⟩
set_option maxRecDepth 100000 in
set_option maxHeartbeats 3200000 in
theorem walk (A : Option Addr) (n c : Nat) (l : List Int) (w : World) (hy : RY w A n c l) :
    Calls Try.prog 3 #[.slice A n c] w fun e w' => e = .returned (.bool true) ∧ Below w.heap.size w w' := by
  have b1 := hy.cap; have b2 := hy.top
  by_cases hb : 4096 < n
  · have E := Lib.hid (show decide (4096 < n) = true from decide_eq_true hb)
    go_enter Try.func3, Try.ntmps3
    go_wp2_with fail
    refine (big _ _ _ _ _ hy).mono ?_; rintro e w1 ⟨rfl, q1⟩
    rw [E.out]
    go_wp2
    go_ret
    exact ⟨rfl, below_qt q1 (Below.refl _ _)⟩
  have E := Lib.hid (show decide (4096 < n) = false from decide_eq_false hb)
  have hn : n ≤ 4096 := by omega
  clear hb
  go_enter Try.func3, Try.ntmps3
  go_wp2_with fail
  refine (big _ _ _ _ _ hy).mono ?_; rintro e w1 ⟨rfl, q1⟩
  rw [E.out]
  have hw1 := below_qt q1 (Below.refl w.heap.size w)
  have sz1 := hw1.size
  go_wp2_with fail
  refine (roll A n c l _ _ (hy.keep (keeps_below hw1)) hn).mono ?_; rintro e w2 ⟨b, rfl, hd2⟩
  have hw2 := below_then hd2.bel sz1 hw1
  have lo2 := hd2.lo
  have up2 := hd2.lt
  have hwb : w.heap.size ≤ b := by omega
  clear hw1 q1 hy E b1 b2
  go_wp2_with fail
  refine (w9Game _ _ b 8 hd2 (by omega) (by omega)).mono ?_; rintro e w3 ⟨s0, s1, s2, g, rfl, HG, og, hd3, hc3⟩
  obtain ⟨A0, c0, A1, c1, A2, c2, rfl, rfl, rfl⟩ := og.form
  have hw3 : Below w.heap.size w w3 := hw2.trans (hc3.below hw2.size (fun y hy => by have h3 : y = b := hy; omega))
  have sz3 := hc3.size
  have hfg := finePar_of HG.out.1
  obtain ⟨n, hn_⟩ : ∃ n, g.1.length = n := ⟨_, rfl⟩
  have hnp : g.2.2.length = n := by rw [hfg.2.1]; exact hn_
  have hn8 : n ≤ 8 := by have h1 := HG.out.2.1; omega
  have HN := Lib.hid hn_; have HNP := Lib.hid hnp; have HF := Lib.hid hfg
  rw [hnp] at og ⊢
  have hba3 : Below w3.heap.size w3 (w3.alloc (.cells #[.slice A0 g.1.length c0, .slice A1 g.2.1.length c1, .slice A2 n c2] 32)) := below_alloc (Nat.le_refl _) (Below.refl _ _)
  have bG : Box (w3.alloc (.cells #[.slice A0 g.1.length c0, .slice A1 g.2.1.length c1, .slice A2 n c2] 32)) w3.heap.size 32 #[.slice A0 g.1.length c0, .slice A1 g.2.1.length c1, .slice A2 n c2] := Box.new _ _ _
  have hd4 := hd3.on hba3; replace og := og.below hba3
  have hw4 := below_then hba3 hw3.size hw3
  have sz4 := hba3.size
  have bb3 : b < w2.heap.size := up2
  have lbG := bG.lt
  have p2 := bG.c2
  clear hc3 hba3 hw3 hd2 hw2 hn_ hfg hnp hd3
  go_upto_region 6 with (fail)
  generalize w3.alloc (.cells #[.slice A0 g.1.length c0, .slice A1 g.2.1.length c1, .slice A2 n c2] 32) = w5 at *
  have hbE : Below w5.heap.size w5 (w5.alloc (.cells #[] 2)) := below_alloc (Nat.le_refl _) (Below.refl _ _)
  have hoE : OI 2 (w5.alloc (.cells #[] 2)) w5.heap.size (.slice (some ⟨w5.heap.size, 0, none⟩) 0 0) [] := OI.empty (Nat.le_refl _)
  have hdE := hd4.on hbE
  have hcE : Chg (fun y => y = b) w5 (w5.alloc (.cells #[] 2)) := chgB hbE
  clear hbE hd4 p2
  go_wp2_with fail
  go_loopw [6, 7] (fun u i wr => ∃ (k : Nat) (xs : List Int) (gg c : Nat), k ≤ n ∧ i = .int .i64 k ∧ u = .slice (some ⟨gg, 0, none⟩) k c ∧ OI 2 wr w5.heap.size u xs ∧ Hid (isOrd xs k) ∧ DiceAt w1 wr b ∧ Chg (fun y => y = b) w5 wr) (fun _ i _ => n - (intOf i).toNat)
  case atStart => exact ⟨0, [], _, _, Nat.zero_le _, rfl, rfl, hoE, Lib.hid ord_nil, hdE, hcE⟩
  case round =>
    clear hoE hdE hcE
    obtain ⟨k, xs, gg, c, hk, rfl, rfl, ho, HO, hd, hcc⟩ := hrel
    by_cases hlt : k < n
    · have hki : (k : Int) < (n : Int) := by omega
      have e1 : IntKind.i64.wrap ((k : Int) + 1) = (k : Int) + 1 := IntWalk.i64_in _ (by omega)
      go_wp2_with fail
      refine (below w1 _ b ((k : Int) + 1) hd (by omega)).mono ?_; rintro e w10 ⟨a', rfl, ha', hd10, hc10⟩
      obtain ⟨a, rfl⟩ := Int.eq_ofNat_of_zero_le ha'.1
      have hak : a ≤ k := by omega
      have hcc10 := hcc.trans hc10 (U := fun y => y = b) (fun _ h => h) (fun _ h => h)
      have ho10 := ho.chg hc10 (fun y hy e => by have h3 : y = b := e; have := (ho.lt y hy).1; omega)
      have sz10 := hcc10.size
      have HXL := Lib.hid HO.out.1
      clear e1 hd hcc hc10 ho ha'
      go_wp2_with fail
      have hoD : OI 2 w10.drew w5.heap.size (.slice (some ⟨gg, 0, none⟩) k c) xs := ho10.drew
      have hdD := hd10.on (Below.drew (Below.refl w10.heap.size w10))
      have hccD : Chg (fun y => y = b) w5 w10.drew := hcc10.drewN 1
      have lD : w5.heap.size ≤ w10.drew.heap.size := sz10
      clear ho10 hd10 hcc10
      refine wp_region_held_drew (S := fun _ => True) (by kernel_rfl) trivial (fun hHeld => ?_)
      generalize w10.drew = wD at *
      have hrD := hoD.reads
      have hcb := hrD.cap; have hct := hrD.top
      have hT : RI wD (some ⟨gg, 0, none⟩) a c (xs.take a) := hrD.take hak
      have HLT := Lib.hid (show (xs.take a).length = a by rw [List.length_take, HXL.out]; omega)
      have HLT1 := Lib.hid (show (xs.take a ++ [(k : Int)]).length = a + 1 by rw [List.length_append, HLT.out]; rfl)
      have HLY := Lib.hid (show ((xs.take a ++ [(k : Int)]) ++ xs.drop a).length = k + 1 by rw [List.length_append, HLT1.out, List.length_drop, HXL.out]; omega)
      have HOY := Lib.hid (ord_ins HO.out hak)
      have hta : (xs.take a).length ≤ 4194304 := by rw [HLT.out]; omega
      have hta1 : (xs.take a ++ [(k : Int)]).length ≤ 4194304 := by rw [HLT1.out]; omega
      have hW := Below.refl wD.heap.size wD
      have hai : (a : Int) ≤ (k : Int) := by omega
      have ha0 : (0 : Int) ≤ (a : Int) := by omega
      have hac : a ≤ c := by omega
      by_cases hkne : c = a
      · have hDr0 := Lib.hid (show xs.drop a = [] by apply List.drop_eq_nil_of_le; rw [HXL.out]; omega)
        have hk2 := hkne.symm
        subst hk2
        refine takeH1 (v := ?_) (by kernel_rfl) (by kernel_rfl) (by kernel_rfl) (fun _ _ _ h => h) hHeld (by rfl) ?_ ?_
        rotate_left; · (intro w hSw; (try dsimp only at hSw); go_simp; try with_reducible rfl)
        try simp only [Act.put, List.setIfInBounds_toArray, List.set_cons_zero, List.set_cons_succ]
        refine takeH2 (v := ?_) (by kernel_rfl) (by kernel_rfl) (by kernel_rfl) (fun _ _ _ h => h) hHeld (by rfl) ?_ ?_
        rotate_left; · (intro w hSw; (try dsimp only at hSw); go_simp; try with_reducible rfl)
        try simp only [Act.put, List.setIfInBounds_toArray, List.set_cons_zero, List.set_cons_succ]
        refine takeH3 (v := ?_) (by kernel_rfl) (by kernel_rfl) (by kernel_rfl) (fun _ _ _ h => h) hHeld (by rfl) ?_ ?_
        rotate_left; · (intro w hSw; (try dsimp only at hSw); go_simp; try with_reducible rfl)
        try simp only [Act.put, List.setIfInBounds_toArray, List.set_cons_zero, List.set_cons_succ]
        refine takeH5 (v := ?_) (by kernel_rfl) (by kernel_rfl) (by kernel_rfl) (fun _ _ _ h => h) hHeld (by rfl) ?_ ?_
        rotate_left; · (intro w hSw; (try dsimp only at hSw); go_simp; try with_reducible rfl)
        try simp only [Act.put, List.setIfInBounds_toArray, List.set_cons_zero, List.set_cons_succ]
        refine takeH8 (v := ?_) (by kernel_rfl) (by kernel_rfl) (by kernel_rfl) (fun _ _ _ h => h) hHeld (by rfl) ?_ ?_
        rotate_left; · (intro w hSw; (try dsimp only at hSw); go_simp; try with_reducible rfl)
        try simp only [Act.put, List.setIfInBounds_toArray, List.set_cons_zero, List.set_cons_succ]
        refine takeH9 (v := ?_) (by kernel_rfl) (by kernel_rfl) (by kernel_rfl) (fun _ _ _ h => h) hHeld (by rfl) ?_ ?_
        rotate_left; · (intro w hSw; (try dsimp only at hSw); go_simp; try with_reducible rfl)
        try simp only [Act.put, List.setIfInBounds_toArray, List.set_cons_zero, List.set_cons_succ]
        refine takeH10 (v := ?_) (by kernel_rfl) (by kernel_rfl) (by kernel_rfl) (fun _ _ _ h => h) hHeld (by rfl) ?_ ?_
        rotate_left; · (intro w hSw; (try dsimp only at hSw); go_simp; try with_reducible rfl)
        try simp only [Act.put, List.setIfInBounds_toArray, List.set_cons_zero, List.set_cons_succ]
        refine twoH_0_6 (by kernel_rfl) (fun K hK => ?_) (fun K hK => ?_)
        · go_simp
          refine hK.out _ _ (trivial) (fun hHeld => ?_)
          clear hK K
          try simp only [Act.put, List.setIfInBounds_toArray, List.set_cons_zero, List.set_cons_succ]
          have hbA : Below wD.heap.size wD (wD.alloc (.cells #[] 2)) := below_alloc (Nat.le_refl _) (Below.refl _ _)
          have r0 : OI 2 (wD.alloc (.cells #[] 2)) wD.heap.size (.slice (some ⟨wD.heap.size, 0, none⟩) 0 0) [] := OI.empty (E := 2) (w := wD) hW.size
          have s0 : wD.heap.size + 1 ≤ (wD.alloc (.cells #[] 2)).heap.size := by simp
          replace hW := below_then hbA hW.size hW
          generalize (wD.alloc (.cells #[] 2)) = wA at *
          refine twoH_4_6 (by kernel_rfl) (fun K hK => ?_) (fun K hK => ?_)
          · refine step_of_list (by rfl) (wp_appI (.tmp 39) (.tmp 42) (by rfl) wA wD.heap.size (.slice (some ⟨wD.heap.size, 0, none⟩) 0 0) [] (by rfl) r0 (some ⟨gg, 0, none⟩) a a (xs.take a) (by rfl) (hT.keep (keeps_below hW)) (by simp) (by omega) hW.size ?_)
            intro v4 w4 ho4 hb4 hc4 hat4
            rw [List.nil_append] at ho4
            obtain ⟨A4, c4, h1e⟩ := ho4.form
            rw [HLT.out] at h1e
            subst h1e
            have r4 := ho4
            replace hW := hW.trans hb4
            clear ho4 hb4 hc4 hat4
            refine hK.out _ _ (trivial) (fun hHeld => ?_)
            clear hK K
            try simp only [Act.put, List.setIfInBounds_toArray, List.set_cons_zero, List.set_cons_succ]
            refine callH6 (by kernel_rfl) (fun K hK => ?_)
            go_simp
            refine hK.out _ _ (trivial) (fun hHeld => ?_)
            clear hK K
            try simp only [Act.put, List.setIfInBounds_toArray, List.set_cons_zero, List.set_cons_succ]
            have hbB : Below w4.heap.size w4 (w4.alloc (.cells #[.int .i64 (k : Int)] 2)) := below_alloc (Nat.le_refl _) (Below.refl _ _)
            have q6 : Box (w4.alloc (.cells #[.int .i64 (k : Int)] 2)) w4.heap.size 2 #[.int .i64 (k : Int)] := Box.new _ _ _
            have n64 : ∀ z, (Value.slice A4 a c4).ownBlock = some z → z ≠ w4.heap.size := fun z hz e => by have := (r4.lt z hz).2; omega
            replace r4 := r4.below hbB
            replace hW := below_then hbB hW.size hW
            generalize (w4.alloc (.cells #[.int .i64 (k : Int)] 2)) = wB at *
            refine callH7 (by kernel_rfl) (fun K hK => ?_)
            refine step_of_list (by rfl) (wp_appI (.tmp 43) (.tmp 45) (by rfl) wB wD.heap.size (.slice A4 a c4) (xs.take a) (by rfl) r4 (some ⟨w4.heap.size, 0, none⟩) 1 1 [(k : Int)] (by rfl) (RI.one1 (Box.cell q6 0)) hta (by omega) hW.size ?_)
            intro v7 w7 ho7 hb7 hc7 hat7
            obtain ⟨A7, c7, h1e⟩ := ho7.form
            rw [HLT1.out] at h1e
            subst h1e
            replace hW := hW.trans hb7
            clear hc7 hat7 hb7 q6
            refine hK.out _ _ (trivial) (fun hHeld => ?_)
            clear hK K
            try simp only [Act.put, List.setIfInBounds_toArray, List.set_cons_zero, List.set_cons_succ]
            refine callH11 (by kernel_rfl) (fun K hK => ?_)
            refine step_of_list (by rfl) (wp_appI (.tmp 46) (.tmp 49) (by rfl) w7 wD.heap.size (.slice A7 (a + 1) c7) (xs.take a ++ [(k : Int)]) (by rfl) ho7 _ _ _ (xs.drop a) (by rfl) (by rw [hDr0.out]; exact ri_none (by omega)) hta1 (by omega) hW.size ?_)
            intro v11 w11 ho11 hb11 hc11 hat11
            obtain ⟨g11, c11, h1e⟩ := oi_some ho11 (by simp)
            rw [HLY.out] at h1e
            subst h1e
            replace hW := hW.trans hb11
            clear hc11 hat11 hb11
            refine hK.out _ _ (trivial) (fun hHeld => ?_)
            clear hK K
            try simp only [Act.put, List.setIfInBounds_toArray, List.set_cons_zero, List.set_cons_succ]
            refine takeH12 (v := ?_) (by kernel_rfl) (by kernel_rfl) (by kernel_rfl) (fun _ _ _ h => h) hHeld (by rfl) ?_ ?_
            rotate_left; · (intro w hSw; (try dsimp only at hSw); go_simp; try with_reducible rfl)
            try simp only [Act.put, List.setIfInBounds_toArray, List.set_cons_zero, List.set_cons_succ]
            refine wpAnyH_done (by kernel_rfl) ?_ _
            have hdN := hdD.on hW
            have hccN : Chg (fun y => y = b) w5 w11 := hccD.then_below hW (by omega)
            have hoN := ho11.more lD
            go_wp2
            exact ⟨⟨k + 1, _, g11, c11, by omega, by go_num, rfl, hoN, HOY, hdN, hccN⟩, by simp [intOf]; omega⟩
          · go_simp
            refine hK.out _ _ (trivial) (fun hHeld => ?_)
            clear hK K
            try simp only [Act.put, List.setIfInBounds_toArray, List.set_cons_zero, List.set_cons_succ]
            have hbB : Below wA.heap.size wA (wA.alloc (.cells #[.int .i64 (k : Int)] 2)) := below_alloc (Nat.le_refl _) (Below.refl _ _)
            have q6 : Box (wA.alloc (.cells #[.int .i64 (k : Int)] 2)) wA.heap.size 2 #[.int .i64 (k : Int)] := Box.new _ _ _
            have n06 : wA.heap.size ≠ wD.heap.size := by omega
            replace r0 := r0.below hbB
            replace hW := below_then hbB hW.size hW
            generalize (wA.alloc (.cells #[.int .i64 (k : Int)] 2)) = wB at *
            refine callH4 (by kernel_rfl) (fun K hK => ?_)
            refine step_of_list (by rfl) (wp_appI (.tmp 39) (.tmp 42) (by rfl) wB wD.heap.size (.slice (some ⟨wD.heap.size, 0, none⟩) 0 0) [] (by rfl) r0 (some ⟨gg, 0, none⟩) a a (xs.take a) (by rfl) (hT.keep (keeps_below hW)) (by simp) (by omega) hW.size ?_)
            intro v4 w4 ho4 hb4 hc4 hat4
            rw [List.nil_append] at ho4
            obtain ⟨A4, c4, h1e⟩ := ho4.form
            rw [HLT.out] at h1e
            subst h1e
            have r4 := ho4
            have n64 : ∀ z, (Value.slice A4 a c4).ownBlock = some z → z ≠ wA.heap.size := fun z hz e => (hat4 z hz).elim (fun h1 => n06 (by rw [← e]; exact (Option.some.inj h1).symm)) (fun h1 => by have := q6.lt; omega)
            replace q6 := (hc4.block _ q6.lt (fun e => n06 (Option.some.inj e).symm)).trans q6
            replace hW := hW.trans hb4
            clear ho4 hb4 hc4 hat4
            refine hK.out _ _ (trivial) (fun hHeld => ?_)
            clear hK K
            try simp only [Act.put, List.setIfInBounds_toArray, List.set_cons_zero, List.set_cons_succ]
            refine callH7 (by kernel_rfl) (fun K hK => ?_)
            refine step_of_list (by rfl) (wp_appI (.tmp 43) (.tmp 45) (by rfl) w4 wD.heap.size (.slice A4 a c4) (xs.take a) (by rfl) r4 (some ⟨wA.heap.size, 0, none⟩) 1 1 [(k : Int)] (by rfl) (RI.one1 (Box.cell q6 0)) hta (by omega) hW.size ?_)
            intro v7 w7 ho7 hb7 hc7 hat7
            obtain ⟨A7, c7, h1e⟩ := ho7.form
            rw [HLT1.out] at h1e
            subst h1e
            replace hW := hW.trans hb7
            clear hc7 hat7 hb7 q6
            refine hK.out _ _ (trivial) (fun hHeld => ?_)
            clear hK K
            try simp only [Act.put, List.setIfInBounds_toArray, List.set_cons_zero, List.set_cons_succ]
            refine callH11 (by kernel_rfl) (fun K hK => ?_)
            refine step_of_list (by rfl) (wp_appI (.tmp 46) (.tmp 49) (by rfl) w7 wD.heap.size (.slice A7 (a + 1) c7) (xs.take a ++ [(k : Int)]) (by rfl) ho7 _ _ _ (xs.drop a) (by rfl) (by rw [hDr0.out]; exact ri_none (by omega)) hta1 (by omega) hW.size ?_)
            intro v11 w11 ho11 hb11 hc11 hat11
            obtain ⟨g11, c11, h1e⟩ := oi_some ho11 (by simp)
            rw [HLY.out] at h1e
            subst h1e
            replace hW := hW.trans hb11
            clear hc11 hat11 hb11
            refine hK.out _ _ (trivial) (fun hHeld => ?_)
            clear hK K
            try simp only [Act.put, List.setIfInBounds_toArray, List.set_cons_zero, List.set_cons_succ]
            refine takeH12 (v := ?_) (by kernel_rfl) (by kernel_rfl) (by kernel_rfl) (fun _ _ _ h => h) hHeld (by rfl) ?_ ?_
            rotate_left; · (intro w hSw; (try dsimp only at hSw); go_simp; try with_reducible rfl)
            try simp only [Act.put, List.setIfInBounds_toArray, List.set_cons_zero, List.set_cons_succ]
            refine wpAnyH_done (by kernel_rfl) ?_ _
            have hdN := hdD.on hW
            have hccN : Chg (fun y => y = b) w5 w11 := hccD.then_below hW (by omega)
            have hoN := ho11.more lD
            go_wp2
            exact ⟨⟨k + 1, _, g11, c11, by omega, by go_num, rfl, hoN, HOY, hdN, hccN⟩, by simp [intOf]; omega⟩
        · go_simp
          refine hK.out _ _ (trivial) (fun hHeld => ?_)
          clear hK K
          try simp only [Act.put, List.setIfInBounds_toArray, List.set_cons_zero, List.set_cons_succ]
          have hbB : Below wD.heap.size wD (wD.alloc (.cells #[.int .i64 (k : Int)] 2)) := below_alloc (Nat.le_refl _) (Below.refl _ _)
          have q6 : Box (wD.alloc (.cells #[.int .i64 (k : Int)] 2)) wD.heap.size 2 #[.int .i64 (k : Int)] := Box.new _ _ _
          replace hW := below_then hbB hW.size hW
          generalize (wD.alloc (.cells #[.int .i64 (k : Int)] 2)) = wB at *
          refine callH0 (by kernel_rfl) (fun K hK => ?_)
          go_simp
          refine hK.out _ _ (trivial) (fun hHeld => ?_)
          clear hK K
          try simp only [Act.put, List.setIfInBounds_toArray, List.set_cons_zero, List.set_cons_succ]
          have hbA : Below wB.heap.size wB (wB.alloc (.cells #[] 2)) := below_alloc (Nat.le_refl _) (Below.refl _ _)
          have r0 : OI 2 (wB.alloc (.cells #[] 2)) wD.heap.size (.slice (some ⟨wB.heap.size, 0, none⟩) 0 0) [] := OI.empty (E := 2) (w := wB) hW.size
          have s0 : wB.heap.size + 1 ≤ (wB.alloc (.cells #[] 2)).heap.size := by simp
          have n06 : wD.heap.size ≠ wB.heap.size := by have := q6.lt; omega
          replace q6 := q6.on hbA
          replace hW := below_then hbA hW.size hW
          generalize (wB.alloc (.cells #[] 2)) = wA at *
          refine callH4 (by kernel_rfl) (fun K hK => ?_)
          refine step_of_list (by rfl) (wp_appI (.tmp 39) (.tmp 42) (by rfl) wA wD.heap.size (.slice (some ⟨wB.heap.size, 0, none⟩) 0 0) [] (by rfl) r0 (some ⟨gg, 0, none⟩) a a (xs.take a) (by rfl) (hT.keep (keeps_below hW)) (by simp) (by omega) hW.size ?_)
          intro v4 w4 ho4 hb4 hc4 hat4
          rw [List.nil_append] at ho4
          obtain ⟨A4, c4, h1e⟩ := ho4.form
          rw [HLT.out] at h1e
          subst h1e
          have r4 := ho4
          have n64 : ∀ z, (Value.slice A4 a c4).ownBlock = some z → z ≠ wD.heap.size := fun z hz e => (hat4 z hz).elim (fun h1 => n06 (by rw [← e]; exact (Option.some.inj h1).symm)) (fun h1 => by have := q6.lt; omega)
          replace q6 := (hc4.block _ q6.lt (fun e => n06 (Option.some.inj e).symm)).trans q6
          replace hW := hW.trans hb4
          clear ho4 hb4 hc4 hat4
          refine hK.out _ _ (trivial) (fun hHeld => ?_)
          clear hK K
          try simp only [Act.put, List.setIfInBounds_toArray, List.set_cons_zero, List.set_cons_succ]
          refine callH7 (by kernel_rfl) (fun K hK => ?_)
          refine step_of_list (by rfl) (wp_appI (.tmp 43) (.tmp 45) (by rfl) w4 wD.heap.size (.slice A4 a c4) (xs.take a) (by rfl) r4 (some ⟨wD.heap.size, 0, none⟩) 1 1 [(k : Int)] (by rfl) (RI.one1 (Box.cell q6 0)) hta (by omega) hW.size ?_)
          intro v7 w7 ho7 hb7 hc7 hat7
          obtain ⟨A7, c7, h1e⟩ := ho7.form
          rw [HLT1.out] at h1e
          subst h1e
          replace hW := hW.trans hb7
          clear hc7 hat7 hb7 q6
          refine hK.out _ _ (trivial) (fun hHeld => ?_)
          clear hK K
          try simp only [Act.put, List.setIfInBounds_toArray, List.set_cons_zero, List.set_cons_succ]
          refine callH11 (by kernel_rfl) (fun K hK => ?_)
          refine step_of_list (by rfl) (wp_appI (.tmp 46) (.tmp 49) (by rfl) w7 wD.heap.size (.slice A7 (a + 1) c7) (xs.take a ++ [(k : Int)]) (by rfl) ho7 _ _ _ (xs.drop a) (by rfl) (by rw [hDr0.out]; exact ri_none (by omega)) hta1 (by omega) hW.size ?_)
          intro v11 w11 ho11 hb11 hc11 hat11
          obtain ⟨g11, c11, h1e⟩ := oi_some ho11 (by simp)
          rw [HLY.out] at h1e
          subst h1e
          replace hW := hW.trans hb11
          clear hc11 hat11 hb11
          refine hK.out _ _ (trivial) (fun hHeld => ?_)
          clear hK K
          try simp only [Act.put, List.setIfInBounds_toArray, List.set_cons_zero, List.set_cons_succ]
          refine takeH12 (v := ?_) (by kernel_rfl) (by kernel_rfl) (by kernel_rfl) (fun _ _ _ h => h) hHeld (by rfl) ?_ ?_
          rotate_left; · (intro w hSw; (try dsimp only at hSw); go_simp; try with_reducible rfl)
          try simp only [Act.put, List.setIfInBounds_toArray, List.set_cons_zero, List.set_cons_succ]
          refine wpAnyH_done (by kernel_rfl) ?_ _
          have hdN := hdD.on hW
          have hccN : Chg (fun y => y = b) w5 w11 := hccD.then_below hW (by omega)
          have hoN := ho11.more lD
          go_wp2
          exact ⟨⟨k + 1, _, g11, c11, by omega, by go_num, rfl, hoN, HOY, hdN, hccN⟩, by simp [intOf]; omega⟩
      · have hDr : RI wD (some ⟨gg, a, none⟩) (k - a) (c - a) (xs.drop a) := ri_drop hrD hak
        refine takeH1 (v := ?_) (by kernel_rfl) (by kernel_rfl) (by kernel_rfl) (fun _ _ _ h => h) hHeld (by rfl) ?_ ?_
        rotate_left; · (intro w hSw; (try dsimp only at hSw); go_simp; try with_reducible rfl)
        try simp only [Act.put, List.setIfInBounds_toArray, List.set_cons_zero, List.set_cons_succ]
        refine takeH2 (v := ?_) (by kernel_rfl) (by kernel_rfl) (by kernel_rfl) (fun _ _ _ h => h) hHeld (by rfl) ?_ ?_
        rotate_left; · (intro w hSw; (try dsimp only at hSw); go_simp; try with_reducible rfl)
        try simp only [Act.put, List.setIfInBounds_toArray, List.set_cons_zero, List.set_cons_succ]
        refine takeH3 (v := ?_) (by kernel_rfl) (by kernel_rfl) (by kernel_rfl) (fun _ _ _ h => h) hHeld (by rfl) ?_ ?_
        rotate_left; · (intro w hSw; (try dsimp only at hSw); go_simp; try with_reducible rfl)
        try simp only [Act.put, List.setIfInBounds_toArray, List.set_cons_zero, List.set_cons_succ]
        refine takeH5 (v := ?_) (by kernel_rfl) (by kernel_rfl) (by kernel_rfl) (fun _ _ _ h => h) hHeld (by rfl) ?_ ?_
        rotate_left; · (intro w hSw; (try dsimp only at hSw); go_simp; try with_reducible rfl)
        try simp only [Act.put, List.setIfInBounds_toArray, List.set_cons_zero, List.set_cons_succ]
        refine takeH8 (v := ?_) (by kernel_rfl) (by kernel_rfl) (by kernel_rfl) (fun _ _ _ h => h) hHeld (by rfl) ?_ ?_
        rotate_left; · (intro w hSw; (try dsimp only at hSw); go_simp; try with_reducible rfl)
        try simp only [Act.put, List.setIfInBounds_toArray, List.set_cons_zero, List.set_cons_succ]
        refine takeH9 (v := ?_) (by kernel_rfl) (by kernel_rfl) (by kernel_rfl) (fun _ _ _ h => h) hHeld (by rfl) ?_ ?_
        rotate_left; · (intro w hSw; (try dsimp only at hSw); go_simp; try with_reducible rfl)
        try simp only [Act.put, List.setIfInBounds_toArray, List.set_cons_zero, List.set_cons_succ]
        refine takeH10 (v := ?_) (by kernel_rfl) (by kernel_rfl) (by kernel_rfl) (fun _ _ _ h => h) hHeld (by rfl) ?_ ?_
        rotate_left; · (intro w hSw; (try dsimp only at hSw); go_simp; try with_reducible rfl)
        try simp only [Act.put, List.setIfInBounds_toArray, List.set_cons_zero, List.set_cons_succ]
        refine twoH_0_6 (by kernel_rfl) (fun K hK => ?_) (fun K hK => ?_)
        · go_simp
          refine hK.out _ _ (trivial) (fun hHeld => ?_)
          clear hK K
          try simp only [Act.put, List.setIfInBounds_toArray, List.set_cons_zero, List.set_cons_succ]
          have hbA : Below wD.heap.size wD (wD.alloc (.cells #[] 2)) := below_alloc (Nat.le_refl _) (Below.refl _ _)
          have r0 : OI 2 (wD.alloc (.cells #[] 2)) wD.heap.size (.slice (some ⟨wD.heap.size, 0, none⟩) 0 0) [] := OI.empty (E := 2) (w := wD) hW.size
          have s0 : wD.heap.size + 1 ≤ (wD.alloc (.cells #[] 2)).heap.size := by simp
          replace hW := below_then hbA hW.size hW
          generalize (wD.alloc (.cells #[] 2)) = wA at *
          refine twoH_4_6 (by kernel_rfl) (fun K hK => ?_) (fun K hK => ?_)
          · refine step_of_list (by rfl) (wp_appI (.tmp 39) (.tmp 42) (by rfl) wA wD.heap.size (.slice (some ⟨wD.heap.size, 0, none⟩) 0 0) [] (by rfl) r0 (some ⟨gg, 0, none⟩) a c (xs.take a) (by rfl) (hT.keep (keeps_below hW)) (by simp) (by omega) hW.size ?_)
            intro v4 w4 ho4 hb4 hc4 hat4
            rw [List.nil_append] at ho4
            obtain ⟨A4, c4, h1e⟩ := ho4.form
            rw [HLT.out] at h1e
            subst h1e
            have r4 := ho4
            replace hW := hW.trans hb4
            clear ho4 hb4 hc4 hat4
            refine hK.out _ _ (trivial) (fun hHeld => ?_)
            clear hK K
            try simp only [Act.put, List.setIfInBounds_toArray, List.set_cons_zero, List.set_cons_succ]
            refine callH6 (by kernel_rfl) (fun K hK => ?_)
            go_simp
            refine hK.out _ _ (trivial) (fun hHeld => ?_)
            clear hK K
            try simp only [Act.put, List.setIfInBounds_toArray, List.set_cons_zero, List.set_cons_succ]
            have hbB : Below w4.heap.size w4 (w4.alloc (.cells #[.int .i64 (k : Int)] 2)) := below_alloc (Nat.le_refl _) (Below.refl _ _)
            have q6 : Box (w4.alloc (.cells #[.int .i64 (k : Int)] 2)) w4.heap.size 2 #[.int .i64 (k : Int)] := Box.new _ _ _
            have n64 : ∀ z, (Value.slice A4 a c4).ownBlock = some z → z ≠ w4.heap.size := fun z hz e => by have := (r4.lt z hz).2; omega
            replace r4 := r4.below hbB
            replace hW := below_then hbB hW.size hW
            generalize (w4.alloc (.cells #[.int .i64 (k : Int)] 2)) = wB at *
            refine callH7 (by kernel_rfl) (fun K hK => ?_)
            refine step_of_list (by rfl) (wp_appI (.tmp 43) (.tmp 45) (by rfl) wB wD.heap.size (.slice A4 a c4) (xs.take a) (by rfl) r4 (some ⟨w4.heap.size, 0, none⟩) 1 1 [(k : Int)] (by rfl) (RI.one1 (Box.cell q6 0)) hta (by omega) hW.size ?_)
            intro v7 w7 ho7 hb7 hc7 hat7
            obtain ⟨A7, c7, h1e⟩ := ho7.form
            rw [HLT1.out] at h1e
            subst h1e
            replace hW := hW.trans hb7
            clear hc7 hat7 hb7 q6
            refine hK.out _ _ (trivial) (fun hHeld => ?_)
            clear hK K
            try simp only [Act.put, List.setIfInBounds_toArray, List.set_cons_zero, List.set_cons_succ]
            refine callH11 (by kernel_rfl) (fun K hK => ?_)
            refine step_of_list (by rfl) (wp_appI (.tmp 46) (.tmp 49) (by rfl) w7 wD.heap.size (.slice A7 (a + 1) c7) (xs.take a ++ [(k : Int)]) (by rfl) ho7 _ _ _ (xs.drop a) (by rfl) (hDr.keep (keeps_below hW)) hta1 (by omega) hW.size ?_)
            intro v11 w11 ho11 hb11 hc11 hat11
            obtain ⟨g11, c11, h1e⟩ := oi_some ho11 (by simp)
            rw [HLY.out] at h1e
            subst h1e
            replace hW := hW.trans hb11
            clear hc11 hat11 hb11
            refine hK.out _ _ (trivial) (fun hHeld => ?_)
            clear hK K
            try simp only [Act.put, List.setIfInBounds_toArray, List.set_cons_zero, List.set_cons_succ]
            refine takeH12 (v := ?_) (by kernel_rfl) (by kernel_rfl) (by kernel_rfl) (fun _ _ _ h => h) hHeld (by rfl) ?_ ?_
            rotate_left; · (intro w hSw; (try dsimp only at hSw); go_simp; try with_reducible rfl)
            try simp only [Act.put, List.setIfInBounds_toArray, List.set_cons_zero, List.set_cons_succ]
            refine wpAnyH_done (by kernel_rfl) ?_ _
            have hdN := hdD.on hW
            have hccN : Chg (fun y => y = b) w5 w11 := hccD.then_below hW (by omega)
            have hoN := ho11.more lD
            go_wp2
            exact ⟨⟨k + 1, _, g11, c11, by omega, by go_num, rfl, hoN, HOY, hdN, hccN⟩, by simp [intOf]; omega⟩
          · go_simp
            refine hK.out _ _ (trivial) (fun hHeld => ?_)
            clear hK K
            try simp only [Act.put, List.setIfInBounds_toArray, List.set_cons_zero, List.set_cons_succ]
            have hbB : Below wA.heap.size wA (wA.alloc (.cells #[.int .i64 (k : Int)] 2)) := below_alloc (Nat.le_refl _) (Below.refl _ _)
            have q6 : Box (wA.alloc (.cells #[.int .i64 (k : Int)] 2)) wA.heap.size 2 #[.int .i64 (k : Int)] := Box.new _ _ _
            have n06 : wA.heap.size ≠ wD.heap.size := by omega
            replace r0 := r0.below hbB
            replace hW := below_then hbB hW.size hW
            generalize (wA.alloc (.cells #[.int .i64 (k : Int)] 2)) = wB at *
            refine callH4 (by kernel_rfl) (fun K hK => ?_)
            refine step_of_list (by rfl) (wp_appI (.tmp 39) (.tmp 42) (by rfl) wB wD.heap.size (.slice (some ⟨wD.heap.size, 0, none⟩) 0 0) [] (by rfl) r0 (some ⟨gg, 0, none⟩) a c (xs.take a) (by rfl) (hT.keep (keeps_below hW)) (by simp) (by omega) hW.size ?_)
            intro v4 w4 ho4 hb4 hc4 hat4
            rw [List.nil_append] at ho4
            obtain ⟨A4, c4, h1e⟩ := ho4.form
            rw [HLT.out] at h1e
            subst h1e
            have r4 := ho4
            have n64 : ∀ z, (Value.slice A4 a c4).ownBlock = some z → z ≠ wA.heap.size := fun z hz e => (hat4 z hz).elim (fun h1 => n06 (by rw [← e]; exact (Option.some.inj h1).symm)) (fun h1 => by have := q6.lt; omega)
            replace q6 := (hc4.block _ q6.lt (fun e => n06 (Option.some.inj e).symm)).trans q6
            replace hW := hW.trans hb4
            clear ho4 hb4 hc4 hat4
            refine hK.out _ _ (trivial) (fun hHeld => ?_)
            clear hK K
            try simp only [Act.put, List.setIfInBounds_toArray, List.set_cons_zero, List.set_cons_succ]
            refine callH7 (by kernel_rfl) (fun K hK => ?_)
            refine step_of_list (by rfl) (wp_appI (.tmp 43) (.tmp 45) (by rfl) w4 wD.heap.size (.slice A4 a c4) (xs.take a) (by rfl) r4 (some ⟨wA.heap.size, 0, none⟩) 1 1 [(k : Int)] (by rfl) (RI.one1 (Box.cell q6 0)) hta (by omega) hW.size ?_)
            intro v7 w7 ho7 hb7 hc7 hat7
            obtain ⟨A7, c7, h1e⟩ := ho7.form
            rw [HLT1.out] at h1e
            subst h1e
            replace hW := hW.trans hb7
            clear hc7 hat7 hb7 q6
            refine hK.out _ _ (trivial) (fun hHeld => ?_)
            clear hK K
            try simp only [Act.put, List.setIfInBounds_toArray, List.set_cons_zero, List.set_cons_succ]
            refine callH11 (by kernel_rfl) (fun K hK => ?_)
            refine step_of_list (by rfl) (wp_appI (.tmp 46) (.tmp 49) (by rfl) w7 wD.heap.size (.slice A7 (a + 1) c7) (xs.take a ++ [(k : Int)]) (by rfl) ho7 _ _ _ (xs.drop a) (by rfl) (hDr.keep (keeps_below hW)) hta1 (by omega) hW.size ?_)
            intro v11 w11 ho11 hb11 hc11 hat11
            obtain ⟨g11, c11, h1e⟩ := oi_some ho11 (by simp)
            rw [HLY.out] at h1e
            subst h1e
            replace hW := hW.trans hb11
            clear hc11 hat11 hb11
            refine hK.out _ _ (trivial) (fun hHeld => ?_)
            clear hK K
            try simp only [Act.put, List.setIfInBounds_toArray, List.set_cons_zero, List.set_cons_succ]
            refine takeH12 (v := ?_) (by kernel_rfl) (by kernel_rfl) (by kernel_rfl) (fun _ _ _ h => h) hHeld (by rfl) ?_ ?_
            rotate_left; · (intro w hSw; (try dsimp only at hSw); go_simp; try with_reducible rfl)
            try simp only [Act.put, List.setIfInBounds_toArray, List.set_cons_zero, List.set_cons_succ]
            refine wpAnyH_done (by kernel_rfl) ?_ _
            have hdN := hdD.on hW
            have hccN : Chg (fun y => y = b) w5 w11 := hccD.then_below hW (by omega)
            have hoN := ho11.more lD
            go_wp2
            exact ⟨⟨k + 1, _, g11, c11, by omega, by go_num, rfl, hoN, HOY, hdN, hccN⟩, by simp [intOf]; omega⟩
        · go_simp
          refine hK.out _ _ (trivial) (fun hHeld => ?_)
          clear hK K
          try simp only [Act.put, List.setIfInBounds_toArray, List.set_cons_zero, List.set_cons_succ]
          have hbB : Below wD.heap.size wD (wD.alloc (.cells #[.int .i64 (k : Int)] 2)) := below_alloc (Nat.le_refl _) (Below.refl _ _)
          have q6 : Box (wD.alloc (.cells #[.int .i64 (k : Int)] 2)) wD.heap.size 2 #[.int .i64 (k : Int)] := Box.new _ _ _
          replace hW := below_then hbB hW.size hW
          generalize (wD.alloc (.cells #[.int .i64 (k : Int)] 2)) = wB at *
          refine callH0 (by kernel_rfl) (fun K hK => ?_)
          go_simp
          refine hK.out _ _ (trivial) (fun hHeld => ?_)
          clear hK K
          try simp only [Act.put, List.setIfInBounds_toArray, List.set_cons_zero, List.set_cons_succ]
          have hbA : Below wB.heap.size wB (wB.alloc (.cells #[] 2)) := below_alloc (Nat.le_refl _) (Below.refl _ _)
          have r0 : OI 2 (wB.alloc (.cells #[] 2)) wD.heap.size (.slice (some ⟨wB.heap.size, 0, none⟩) 0 0) [] := OI.empty (E := 2) (w := wB) hW.size
          have s0 : wB.heap.size + 1 ≤ (wB.alloc (.cells #[] 2)).heap.size := by simp
          have n06 : wD.heap.size ≠ wB.heap.size := by have := q6.lt; omega
          replace q6 := q6.on hbA
          replace hW := below_then hbA hW.size hW
          generalize (wB.alloc (.cells #[] 2)) = wA at *
          refine callH4 (by kernel_rfl) (fun K hK => ?_)
          refine step_of_list (by rfl) (wp_appI (.tmp 39) (.tmp 42) (by rfl) wA wD.heap.size (.slice (some ⟨wB.heap.size, 0, none⟩) 0 0) [] (by rfl) r0 (some ⟨gg, 0, none⟩) a c (xs.take a) (by rfl) (hT.keep (keeps_below hW)) (by simp) (by omega) hW.size ?_)
          intro v4 w4 ho4 hb4 hc4 hat4
          rw [List.nil_append] at ho4
          obtain ⟨A4, c4, h1e⟩ := ho4.form
          rw [HLT.out] at h1e
          subst h1e
          have r4 := ho4
          have n64 : ∀ z, (Value.slice A4 a c4).ownBlock = some z → z ≠ wD.heap.size := fun z hz e => (hat4 z hz).elim (fun h1 => n06 (by rw [← e]; exact (Option.some.inj h1).symm)) (fun h1 => by have := q6.lt; omega)
          replace q6 := (hc4.block _ q6.lt (fun e => n06 (Option.some.inj e).symm)).trans q6
          replace hW := hW.trans hb4
          clear ho4 hb4 hc4 hat4
          refine hK.out _ _ (trivial) (fun hHeld => ?_)
          clear hK K
          try simp only [Act.put, List.setIfInBounds_toArray, List.set_cons_zero, List.set_cons_succ]
          refine callH7 (by kernel_rfl) (fun K hK => ?_)
          refine step_of_list (by rfl) (wp_appI (.tmp 43) (.tmp 45) (by rfl) w4 wD.heap.size (.slice A4 a c4) (xs.take a) (by rfl) r4 (some ⟨wD.heap.size, 0, none⟩) 1 1 [(k : Int)] (by rfl) (RI.one1 (Box.cell q6 0)) hta (by omega) hW.size ?_)
          intro v7 w7 ho7 hb7 hc7 hat7
          obtain ⟨A7, c7, h1e⟩ := ho7.form
          rw [HLT1.out] at h1e
          subst h1e
          replace hW := hW.trans hb7
          clear hc7 hat7 hb7 q6
          refine hK.out _ _ (trivial) (fun hHeld => ?_)
          clear hK K
          try simp only [Act.put, List.setIfInBounds_toArray, List.set_cons_zero, List.set_cons_succ]
          refine callH11 (by kernel_rfl) (fun K hK => ?_)
          refine step_of_list (by rfl) (wp_appI (.tmp 46) (.tmp 49) (by rfl) w7 wD.heap.size (.slice A7 (a + 1) c7) (xs.take a ++ [(k : Int)]) (by rfl) ho7 _ _ _ (xs.drop a) (by rfl) (hDr.keep (keeps_below hW)) hta1 (by omega) hW.size ?_)
          intro v11 w11 ho11 hb11 hc11 hat11
          obtain ⟨g11, c11, h1e⟩ := oi_some ho11 (by simp)
          rw [HLY.out] at h1e
          subst h1e
          replace hW := hW.trans hb11
          clear hc11 hat11 hb11
          refine hK.out _ _ (trivial) (fun hHeld => ?_)
          clear hK K
          try simp only [Act.put, List.setIfInBounds_toArray, List.set_cons_zero, List.set_cons_succ]
          refine takeH12 (v := ?_) (by kernel_rfl) (by kernel_rfl) (by kernel_rfl) (fun _ _ _ h => h) hHeld (by rfl) ?_ ?_
          rotate_left; · (intro w hSw; (try dsimp only at hSw); go_simp; try with_reducible rfl)
          try simp only [Act.put, List.setIfInBounds_toArray, List.set_cons_zero, List.set_cons_succ]
          refine wpAnyH_done (by kernel_rfl) ?_ _
          have hdN := hdD.on hW
          have hccN : Chg (fun y => y = b) w5 w11 := hccD.then_below hW (by omega)
          have hoN := ho11.more lD
          go_wp2
          exact ⟨⟨k + 1, _, g11, c11, by omega, by go_num, rfl, hoN, HOY, hdN, hccN⟩, by simp [intOf]; omega⟩
    · obtain rfl : n = k := by omega
      generalize wr = wa at *
      replace og := og.chg hcc (fun y hy => by have h3 : y = b := hy; omega)
      replace bG : Box wa w3.heap.size 32 #[.slice A0 g.1.length c0, .slice A1 g.2.1.length c1, .slice A2 n c2] := (hcc.block _ bG.lt (fun e => by have h3 : w3.heap.size = b := e; omega)).trans bG
      have hwr : Below w.heap.size w wa := hw4.trans (hcc.below hw4.size (fun y hy => by have h3 : y = b := hy; omega))
      have szr := hcc.size
      clear hcc hw4
      go_wp2_with (refine wpList_makeI rfl (.tmp 51) rfl _ n rfl (by omega) ?_; intro wb hob hbb)
      have hwb := below_then hbb hwr.size hwr
      have hgl := fun y hy => (ho.lt y hy).2
      have ho_b := ho.below hbb
      have hbl : wa.heap.size < wb.heap.size := (hob.lt _ rfl).2
      have hbm : b < wa.heap.size := by omega
      go_loopw [10] (fun i wr => ∃ (k : Nat) (bs : List Int), k ≤ n ∧ i = .int .i64 k ∧ OI 2 wr wa.heap.size (.slice (some ⟨wa.heap.size, 0, none⟩) n n) bs ∧ Hid (bs.length = n ∧ ∀ j, j < k → gi bs (gi xs j).toNat = (j : Int)) ∧ Chg (fun y => y = wa.heap.size) wb wr) (fun i _ => n - (intOf i).toNat)
      case atStart => exact ⟨0, _, Nat.zero_le _, rfl, hob, Lib.hid ⟨by simp, fun j hj => absurd hj (by omega)⟩, Chg.refl _ _⟩
      case round =>
        clear hob
        obtain ⟨k, bs, hk, rfl, hob, HB, hcq⟩ := hrel
        have hoq := ho_b.chg hcq (fun y hy e => by have h3 : y = wa.heap.size := e; have := hgl y hy; omega)
        by_cases hlt : k < n
        · obtain ⟨x', hx'⟩ : ∃ x' : Nat, gi xs k = (x' : Int) := ⟨(gi xs k).toNat, by have := HO.out.2.1 k hlt; omega⟩
          have hxn : x' < n := by have := HO.out.2.1 k hlt; omega
          have HX := Lib.hid hx'
          have hco := hoq.cellAt (i := k) (by rw [HO.out.1]; exact hlt)
          rw [hx'] at hco
          have hcm := hob.cellAt (i := x') (by rw [HB.out.1]; exact hxn)
          have hfz := hob.hot (i := x') (by rw [HB.out.1])
          have HB2 := Lib.hid (show (bs.set x' (k : Int)).length = n ∧ ∀ j, j < k + 1 → gi (bs.set x' (k : Int)) (gi xs j).toNat = (j : Int) from ⟨by rw [List.length_set]; exact HB.out.1, fun j hj => by
            rw [gi_set (by rw [HB.out.1]; exact hxn)]
            by_cases e : j = k
            · subst e; rw [if_pos (by omega)]
            · have h1 := HO.out.2.2 j k (by omega) hlt
              have h2 := HO.out.2.1 j (by omega)
              rw [if_neg (by omega)]; exact HB.out.2 j (by omega)⟩)
          have hob2 := hob.set_ (i := x') (by rw [HB.out.1]) (k : Int)
          have hcq2 := chg_then hcq (Chg.set ⟨wa.heap.size, x', none⟩ (.int .i64 (k : Int)))
          have hki : (k : Int) < (n : Int) := by omega
          have hk0 : (0 : Int) ≤ (k : Int) := by omega
          have hxi : (x' : Int) < (n : Int) := by omega
          have hx0 : (0 : Int) ≤ (x' : Int) := by omega
          clear hx' hob hoq
          go_wp2
          exact ⟨⟨k + 1, _, by omega, by go_num, hob2, HB2, hcq2⟩, by simp [intOf]; omega⟩
        · obtain rfl : n = k := by omega
          have hbk := back_is HO.out HB.out.1 HB.out.2
          subst hbk
          have hB2 : Below wa.heap.size wa wr := hbb.trans (hcq.below hbb.size (fun y hy => by have h3 : y = wa.heap.size := hy; omega))
          replace og := og.below hB2; replace bG := bG.on hB2; replace hd := hd.on hB2
          replace ho := ho.below hB2
          have hbr : b < wr.heap.size := hd.lt
          have hrb := hob.reads
          have hwn := below_then hB2 hwr.size hwr
          have HON := Lib.hid (show isOrd xs g.1.length by rw [HN.out]; exact HO.out)
          have HRX := Lib.hid (show ∀ w', Below wr.heap.size wr w' → Calls Try.prog 11 #[.agg #[.slice A0 g.1.length c0, .slice A1 g.2.1.length c1, .slice A2 n c2], .slice (some ⟨gg, 0, none⟩) n c] w' fun e w'' => ∃ t0 t1 t2, e = .returned (.tuple #[.agg #[t0, t1, t2], .bool true]) ∧ OPar w'' w'.heap.size t0 t1 t2 (renG g xs) ∧ Below w'.heap.size w' w'' from fun w' hb => by
            have h := implRenamed _ _ _ g _ n c xs w' _ (Nat.le_refl _) (og.reads.keep (keeps_below hb)) (ho.reads.keep (keeps_below hb))
            rw [ren_ok HF.out HON.out] at h
            exact h)
          have HXp := Lib.hid (parB_fine (ren_fine HF.out HON.out))
          have HXl := Lib.hid (show (renG g xs).1.length = n by rw [(ren_len HF.out HON.out).1, HN.out])
          have HXw := Lib.hid (show ∀ i, i < n → gi (wonL (renG g xs)) i = gi (wonL g) (gi xs i).toNat from fun i hi => ren_won HF.out HON.out (by rw [HN.out]; exact hi))
          have HXo := Lib.hid (show isOrd (whereUp xs n n) (renG g xs).1.length by rw [HXl.out]; exact wh_ord HO.out)
          have HXb := Lib.hid (show renG (renG g xs) (whereUp xs n n) = g by have h := ren_back HF.out HON.out; rw [HN.out] at h; exact h)
          have HXk := Lib.hid (ren_ok (ren_fine HF.out HON.out) HXo.out)
          have t0 := bG.c0; have t1 := bG.c1; have t2 := bG.c2
          clear hcq hbb hB2 hob hwr hwb
          go_wp2_with fail
          refine (HRX.out _ (Below.refl _ _)).mono ?_; rintro e w12 ⟨u0, u1, u2, rfl, ox, hb12⟩
          clear HRX
          generalize renG g xs = x at *
          obtain ⟨D0, d0, D1, d1, D2, d2, rfl, rfl, rfl⟩ := ox.form
          have hw12 := below_then hb12 hwn.size hwn
          have hb12_ : b < w12.heap.size := (hd.on hb12).lt
          have hba12 : Below w12.heap.size w12 (w12.alloc (.cells #[.slice D0 x.1.length d0, .slice D1 x.2.1.length d1, .slice D2 x.2.2.length d2] 32)) := below_alloc (Nat.le_refl _) (Below.refl _ _)
          have bX : Box (w12.alloc (.cells #[.slice D0 x.1.length d0, .slice D1 x.2.1.length d1, .slice D2 x.2.2.length d2] 32)) w12.heap.size 32 #[.slice D0 x.1.length d0, .slice D1 x.2.1.length d1, .slice D2 x.2.2.length d2] := Box.new _ _ _
          replace ox := ox.below hba12; replace og := (og.below hb12).below hba12; replace bG := (bG.on hb12).on hba12; replace hd := (hd.on hb12).on hba12; replace ho := (ho.below hb12).below hba12; replace hrb := (hrb.keep (keeps_below hb12)).keep (keeps_below hba12)
          have hw13 := below_then hba12 hw12.size hw12
          clear t0 t1 t2 hb12 hba12 hw12 hwn
          have t0 := bX.c0; have t1 := bX.c1; have t2 := bX.c2
          go_wp2_with fail
          generalize w12.alloc (.cells #[.slice D0 x.1.length d0, .slice D1 x.2.1.length d1, .slice D2 x.2.2.length d2] 32) = w13 at *
          refine (implRenamed _ _ _ x _ n n (whereUp xs n n) _ _ (Nat.le_refl _) ox.reads hrb).mono ?_; rintro e w14 ⟨v0, v1, v2, rfl, oy, hb14⟩
          rw [HXk.out]
          rw [HXb.out] at oy
          obtain ⟨E0, e0, E1, e1, E2, e2, rfl, rfl, rfl⟩ := oy.form
          have hb13_ : b < w13.heap.size := hd.lt
          have hb14_ : b < w14.heap.size := (hd.on hb14).lt
          have hw14 := below_then hb14 hw13.size hw13
          have hba14 : Below w14.heap.size w14 (w14.alloc (.cells #[.slice E0 g.1.length e0, .slice E1 g.2.1.length e1, .slice E2 g.2.2.length e2] 32)) := below_alloc (Nat.le_refl _) (Below.refl _ _)
          have bY : Box (w14.alloc (.cells #[.slice E0 g.1.length e0, .slice E1 g.2.1.length e1, .slice E2 g.2.2.length e2] 32)) w14.heap.size 32 #[.slice E0 g.1.length e0, .slice E1 g.2.1.length e1, .slice E2 g.2.2.length e2] := Box.new _ _ _
          replace oy := oy.below hba14; replace ox := (ox.below hb14).below hba14; replace og := (og.below hb14).below hba14; replace bX := (bX.on hb14).on hba14; replace bG := (bG.on hb14).on hba14; replace hd := (hd.on hb14).on hba14; replace ho := (ho.below hb14).below hba14
          have hw15 := below_then hba14 hw14.size hw14
          clear t0 t1 t2 hb14 hba14 hw13 hw14 hrb HXb HXk HXo
          go_upto_region 19 with (fail)
          generalize w14.alloc (.cells #[.slice E0 g.1.length e0, .slice E1 g.2.1.length e1, .slice E2 g.2.2.length e2] 32) = w15 at *
          have b5 : b < w5.heap.size := by omega
          have HP6 := Lib.hid (show ∀ v, v < g.2.2.length → gi g.2.2 v < 6 from HG.out.2.2)
          go_cut [15, 16] (fun u15 u16 wx => Hid (∃ (bb : Nat) (F0 F1 F2 : Option Addr) (f0 f1 f2 : Nat) (z : ParD), u15 = .pointer (some ⟨bb, 0, none⟩) ∧ u16 = .bool true ∧ Box wx bb 32 #[.slice F0 z.1.length f0, .slice F1 z.2.1.length f1, .slice F2 z.2.2.length f2] ∧ RPv wx (.slice F0 z.1.length f0) (.slice F1 z.2.1.length f1) (.slice F2 z.2.2.length f2) z ∧ (parB z = true ∧ z.1.length = n ∧ wonL z = wonL g) ∧ RPv wx (.slice A0 g.1.length c0) (.slice A1 g.2.1.length c1) (.slice A2 n c2) g ∧ RPv wx (.slice D0 x.1.length d0) (.slice D1 x.2.1.length d1) (.slice D2 x.2.2.length d2) x ∧ RPv wx (.slice E0 g.1.length e0) (.slice E1 g.2.1.length e1) (.slice E2 g.2.2.length e2) g ∧ Box wx w3.heap.size 32 #[.slice A0 g.1.length c0, .slice A1 g.2.1.length c1, .slice A2 n c2] ∧ Box wx w12.heap.size 32 #[.slice D0 x.1.length d0, .slice D1 x.2.1.length d1, .slice D2 x.2.2.length d2] ∧ Box wx w14.heap.size 32 #[.slice E0 g.1.length e0, .slice E1 g.2.1.length e1, .slice E2 g.2.2.length e2] ∧ RI wx (some ⟨gg, 0, none⟩) n c xs ∧ Below w.heap.size w wx))
          case first =>
            have hdr := Below.drew (Below.refl w15.heap.size w15)
            replace og := og.below hdr; replace ox := ox.below hdr; replace oy := oy.below hdr; replace bG := bG.on hdr; replace bX := bX.on hdr; replace bY := bY.on hdr; replace ho := ho.below hdr; replace hd := hd.on hdr
            have hwN := below_then hdr hw15.size hw15
            refine wp_region_held_drew (S := (fun w' => w'.cell? ⟨w3.heap.size, 0, none⟩ = some (.slice A0 g.1.length c0) ∧ w'.cell? ⟨w3.heap.size, 1, none⟩ = some (.slice A1 g.2.1.length c1) ∧ w'.cell? ⟨w3.heap.size, 2, none⟩ = some (.slice A2 n c2))) (by kernel_rfl) (⟨bG.c0, bG.c1, bG.c2⟩) (fun hHeld => ?_)
            clear hdr hw15
            generalize w15.drew = wD at *
            have zz := Nat.le_refl wD.heap.size
            have lG : w3.heap.size < wD.heap.size := bG.lt
            have lX : w12.heap.size < wD.heap.size := bX.lt
            have lY : w14.heap.size < wD.heap.size := bY.lt
            have lw : w.heap.size ≤ wD.heap.size := hwN.size
            have lbD : b < wD.heap.size := hd.lt
            refine takeH0 (v := ?_) (by kernel_rfl) (by kernel_rfl) (by kernel_rfl) (fun _ _ _ h => h) hHeld (by rfl) ?_ ?_
            rotate_left; · (intro w hSw; (try dsimp only at hSw); go_simp; try with_reducible rfl)
            try simp only [Act.put, List.setIfInBounds_toArray, List.set_cons_zero, List.set_cons_succ]
            refine takeH1 (v := ?_) (by kernel_rfl) (by kernel_rfl) (by kernel_rfl) (fun _ _ _ h => h) hHeld (by rfl) ?_ ?_
            rotate_left; · (intro w hSw; (try dsimp only at hSw); go_simp; try with_reducible rfl)
            try simp only [Act.put, List.setIfInBounds_toArray, List.set_cons_zero, List.set_cons_succ]
            refine twoH_2_7 (by kernel_rfl) (fun K hK => ?_) (fun K hK => ?_)
            · go_simp
              go_at_call 10
              refine (below w1 _ b 15 hd (by omega)).mono ?_; rintro e w22 ⟨by_, rfl, hby, hd22, hc22⟩
              replace og := og.chg hc22 (fun y hy => by have h3 : y = b := hy; omega)
              replace ox := ox.chg hc22 (fun y hy => by have h3 : y = b := hy; omega)
              replace oy := oy.chg hc22 (fun y hy => by have h3 : y = b := hy; omega)
              replace bG := (hc22.block _ bG.lt (fun e => by have h3 : w3.heap.size = b := e; omega)).trans bG
              replace bX := (hc22.block _ bX.lt (fun e => by have h3 : w12.heap.size = b := e; omega)).trans bX
              replace bY := (hc22.block _ bY.lt (fun e => by have h3 : w14.heap.size = b := e; omega)).trans bY
              replace ho := ho.chg hc22 (fun y hy e => by have h3 : y = b := e; have := (ho.lt y hy).1; omega)
              replace hwN := hwN.trans (hc22.below hwN.size (fun y hy => by have h3 : y = b := hy; omega))
              replace zz := Nat.le_trans zz hc22.size
              replace bG : Box w22 (w3.heap.size) 32 #[.slice A0 g.1.length c0, .slice A1 g.2.1.length c1, .slice A2 n c2] := bG
              replace bX : Box w22 (w12.heap.size) 32 #[.slice D0 x.1.length d0, .slice D1 x.2.1.length d1, .slice D2 x.2.2.length d2] := bX
              replace bY : Box w22 (w14.heap.size) 32 #[.slice E0 g.1.length e0, .slice E1 g.2.1.length e1, .slice E2 g.2.2.length e2] := bY
              have HRK := Lib.hid (rs_ok HF.out hby.1 (by omega) (fun v hv => by have h3 := HP6.out v hv; omega))
              have HRW := Lib.hid (rs_won HF.out hby.1 (by omega) (fun v hv => by have h3 := HP6.out v hv; omega))
              have HRF := Lib.hid (parB_fine (rs_fine HF.out hby.1 (by omega) (fun v hv => by have h3 := HP6.out v hv; omega)))
              have HRL := Lib.hid (show (raiseG g by_).1.length = n by rw [rs_eq HF.out hby.1 (by omega) (fun v hv => by have h3 := HP6.out v hv; omega)]; exact HN.out)
              clear hd22 hc22 hd
              go_wp2_with fail
              refine hK.out _ _ (⟨bG.c0, bG.c1, bG.c2⟩) (fun hHeld => ?_)
              clear hK K
              try simp only [Act.put, List.setIfInBounds_toArray, List.set_cons_zero, List.set_cons_succ]
              refine twoH_3_7 (by kernel_rfl) (fun K hK => ?_) (fun K hK => ?_)
              · go_simp
                go_at_call 12
                refine (implRaisedGame _ _ _ g by_ _ _ (Nat.le_refl _) og.reads).mono ?_; rintro e w23 ⟨z0, z1, z2, rfl, oz, hb23⟩
                rw [HRK.out]
                generalize raiseG g by_ = z at *
                obtain ⟨F0, f0, F1, f1, F2, f2, rfl, rfl, rfl⟩ := oz.form
                replace og := og.below hb23
                replace ox := ox.below hb23
                replace oy := oy.below hb23
                replace bG := bG.on hb23
                replace bX := bX.on hb23
                replace bY := bY.on hb23
                replace ho := ho.below hb23
                replace hwN := below_then hb23 hwN.size hwN
                replace zz := Nat.le_trans zz hb23.size
                go_wp2_with fail
                refine hK.out _ _ (⟨bG.c0, bG.c1, bG.c2⟩) (fun hHeld => ?_)
                clear hK K
                try simp only [Act.put, List.setIfInBounds_toArray, List.set_cons_zero, List.set_cons_succ]
                refine takeH4 (v := ?_) (by kernel_rfl) (by kernel_rfl) (by kernel_rfl) (fun _ _ _ h => h) hHeld (by rfl) ?_ ?_
                rotate_left; · (intro w hSw; (try dsimp only at hSw); go_simp; try with_reducible rfl)
                try simp only [Act.put, List.setIfInBounds_toArray, List.set_cons_zero, List.set_cons_succ]
                refine takeH5 (v := ?_) (by kernel_rfl) (by kernel_rfl) (by kernel_rfl) (fun _ _ _ h => h) hHeld (by rfl) ?_ ?_
                rotate_left; · (intro w hSw; (try dsimp only at hSw); go_simp; try with_reducible rfl)
                try simp only [Act.put, List.setIfInBounds_toArray, List.set_cons_zero, List.set_cons_succ]
                refine takeH6 (v := ?_) (by kernel_rfl) (by kernel_rfl) (by kernel_rfl) (fun _ _ _ h => h) hHeld (by rfl) ?_ ?_
                rotate_left; · (intro w hSw; (try dsimp only at hSw); go_simp; try with_reducible rfl)
                try simp only [Act.put, List.setIfInBounds_toArray, List.set_cons_zero, List.set_cons_succ]
                refine callH7 (by kernel_rfl) (fun K hK => ?_)
                have bGA := bG.alloc (.cells #[.slice none 0 0, .slice none 0 0, .slice none 0 0] 32)
                go_simp
                refine hK.out _ _ (⟨bGA.c0, bGA.c1, bGA.c2⟩) (fun hHeld => ?_)
                clear hK K
                try simp only [Act.put, List.setIfInBounds_toArray, List.set_cons_zero, List.set_cons_succ]
                clear bGA
                have hlk : wD.heap.size ≤ w23.heap.size := zz
                have hbA : Below w23.heap.size w23 (w23.alloc (.cells #[.slice none 0 0, .slice none 0 0, .slice none 0 0] 32)) := below_alloc (Nat.le_refl _) (Below.refl _ _)
                have bz : Box (w23.alloc (.cells #[.slice none 0 0, .slice none 0 0, .slice none 0 0] 32)) w23.heap.size 32 #[.slice none 0 0, .slice none 0 0, .slice none 0 0] := Box.new _ _ _
                replace og := og.below hbA
                replace ox := ox.below hbA
                replace oy := oy.below hbA
                replace bG := bG.on hbA
                replace bX := bX.on hbA
                replace bY := bY.on hbA
                replace ho := ho.below hbA
                replace hwN := below_then hbA hwN.size hwN
                replace zz := Nat.le_trans zz hbA.size
                replace oz := oz.below hbA
                generalize (w23.alloc (.cells #[.slice none 0 0, .slice none 0 0, .slice none 0 0] 32)) = wA at *
                refine callH8 (by kernel_rfl) (fun K hK => ?_)
                have z0_ := bz.c0; have z1_ := bz.c1; have z2_ := bz.c2; have y0 := bz.hot 0; have y1 := bz.hot 1; have y2 := bz.hot 2
                have hch := Chg.set3 wA (w23.heap.size) (.slice F0 z.1.length f0) (.slice F1 z.2.1.length f1) (.slice F2 z.2.2.length f2)
                have bz5 := bz.set3 (.slice F0 z.1.length f0) (.slice F1 z.2.1.length f1) (.slice F2 z.2.2.length f2)
                have og5 := og.chgBox bz (by decide) (by decide) hch
                have ox5 := ox.chgBox bz (by decide) (by decide) hch
                have oy5 := oy.chgBox bz (by decide) (by decide) hch
                have oz5 := oz.chgBox bz (by decide) (by decide) hch
                have ho5 := ho.chgBox bz (by decide) hch
                have bG5 : Box (((wA.setCell ⟨w23.heap.size, 0, none⟩ (.slice F0 z.1.length f0)).setCell ⟨w23.heap.size, 1, none⟩ (.slice F1 z.2.1.length f1)).setCell ⟨w23.heap.size, 2, none⟩ (.slice F2 z.2.2.length f2)) (w3.heap.size) 32 #[.slice A0 g.1.length c0, .slice A1 g.2.1.length c1, .slice A2 n c2] := (hch.block _ bG.lt (fun e => by have h5 : w3.heap.size = w23.heap.size := e; omega)).trans bG
                have bX5 : Box (((wA.setCell ⟨w23.heap.size, 0, none⟩ (.slice F0 z.1.length f0)).setCell ⟨w23.heap.size, 1, none⟩ (.slice F1 z.2.1.length f1)).setCell ⟨w23.heap.size, 2, none⟩ (.slice F2 z.2.2.length f2)) (w12.heap.size) 32 #[.slice D0 x.1.length d0, .slice D1 x.2.1.length d1, .slice D2 x.2.2.length d2] := (hch.block _ bX.lt (fun e => by have h5 : w12.heap.size = w23.heap.size := e; omega)).trans bX
                have bY5 : Box (((wA.setCell ⟨w23.heap.size, 0, none⟩ (.slice F0 z.1.length f0)).setCell ⟨w23.heap.size, 1, none⟩ (.slice F1 z.2.1.length f1)).setCell ⟨w23.heap.size, 2, none⟩ (.slice F2 z.2.2.length f2)) (w14.heap.size) 32 #[.slice E0 g.1.length e0, .slice E1 g.2.1.length e1, .slice E2 g.2.2.length e2] := (hch.block _ bY.lt (fun e => by have h5 : w14.heap.size = w23.heap.size := e; omega)).trans bY
                have hw5 := hwN.trans (hch.below hwN.size (fun x hx => by have h5 : x = w23.heap.size := hx; omega))
                go_simp
                refine hK.out _ _ (⟨bG5.c0, bG5.c1, bG5.c2⟩) (fun hHeld => ?_)
                clear hK K
                try simp only [Act.put, List.setIfInBounds_toArray, List.set_cons_zero, List.set_cons_succ]
                refine takeH9 (v := ?_) (by kernel_rfl) (by kernel_rfl) (by kernel_rfl) (fun _ _ _ h => h) hHeld (by rfl) ?_ ?_
                rotate_left; · (intro w hSw; (try dsimp only at hSw); go_simp; try with_reducible rfl)
                try simp only [Act.put, List.setIfInBounds_toArray, List.set_cons_zero, List.set_cons_succ]
                refine wpAnyH_done (by kernel_rfl) ?_ _
                go_wp2_with fail; go_meet
                exact Lib.hid ⟨w23.heap.size, _, _, _, _, _, _, z, rfl, rfl, bz5, oz5.reads, ⟨HRF.out, HRL.out, HRW.out⟩, og5.reads, ox5.reads, oy5.reads, bG5, bX5, bY5, ho5.reads, hw5⟩
              · have bGA := bG.alloc (.cells #[.slice none 0 0, .slice none 0 0, .slice none 0 0] 32)
                go_simp
                refine hK.out _ _ (⟨bGA.c0, bGA.c1, bGA.c2⟩) (fun hHeld => ?_)
                clear hK K
                try simp only [Act.put, List.setIfInBounds_toArray, List.set_cons_zero, List.set_cons_succ]
                clear bGA
                have hlk : wD.heap.size ≤ w22.heap.size := zz
                have hbA : Below w22.heap.size w22 (w22.alloc (.cells #[.slice none 0 0, .slice none 0 0, .slice none 0 0] 32)) := below_alloc (Nat.le_refl _) (Below.refl _ _)
                have bz : Box (w22.alloc (.cells #[.slice none 0 0, .slice none 0 0, .slice none 0 0] 32)) w22.heap.size 32 #[.slice none 0 0, .slice none 0 0, .slice none 0 0] := Box.new _ _ _
                replace og := og.below hbA
                replace ox := ox.below hbA
                replace oy := oy.below hbA
                replace bG := bG.on hbA
                replace bX := bX.on hbA
                replace bY := bY.on hbA
                replace ho := ho.below hbA
                replace hwN := below_then hbA hwN.size hwN
                replace zz := Nat.le_trans zz hbA.size
                generalize (w22.alloc (.cells #[.slice none 0 0, .slice none 0 0, .slice none 0 0] 32)) = wA at *
                refine callH3 (by kernel_rfl) (fun K hK => ?_)
                go_simp
                go_at_call 12
                refine (implRaisedGame _ _ _ g by_ _ _ (Nat.le_refl _) og.reads).mono ?_; rintro e w23 ⟨z0, z1, z2, rfl, oz, hb23⟩
                rw [HRK.out]
                generalize raiseG g by_ = z at *
                obtain ⟨F0, f0, F1, f1, F2, f2, rfl, rfl, rfl⟩ := oz.form
                replace og := og.below hb23
                replace ox := ox.below hb23
                replace oy := oy.below hb23
                replace bG := bG.on hb23
                replace bX := bX.on hb23
                replace bY := bY.on hb23
                replace ho := ho.below hb23
                replace hwN := below_then hb23 hwN.size hwN
                replace zz := Nat.le_trans zz hb23.size
                replace bz := bz.on hb23
                go_wp2_with fail
                refine hK.out _ _ (⟨bG.c0, bG.c1, bG.c2⟩) (fun hHeld => ?_)
                clear hK K
                try simp only [Act.put, List.setIfInBounds_toArray, List.set_cons_zero, List.set_cons_succ]
                refine takeH4 (v := ?_) (by kernel_rfl) (by kernel_rfl) (by kernel_rfl) (fun _ _ _ h => h) hHeld (by rfl) ?_ ?_
                rotate_left; · (intro w hSw; (try dsimp only at hSw); go_simp; try with_reducible rfl)
                try simp only [Act.put, List.setIfInBounds_toArray, List.set_cons_zero, List.set_cons_succ]
                refine takeH5 (v := ?_) (by kernel_rfl) (by kernel_rfl) (by kernel_rfl) (fun _ _ _ h => h) hHeld (by rfl) ?_ ?_
                rotate_left; · (intro w hSw; (try dsimp only at hSw); go_simp; try with_reducible rfl)
                try simp only [Act.put, List.setIfInBounds_toArray, List.set_cons_zero, List.set_cons_succ]
                refine takeH6 (v := ?_) (by kernel_rfl) (by kernel_rfl) (by kernel_rfl) (fun _ _ _ h => h) hHeld (by rfl) ?_ ?_
                rotate_left; · (intro w hSw; (try dsimp only at hSw); go_simp; try with_reducible rfl)
                try simp only [Act.put, List.setIfInBounds_toArray, List.set_cons_zero, List.set_cons_succ]
                refine callH8 (by kernel_rfl) (fun K hK => ?_)
                have z0_ := bz.c0; have z1_ := bz.c1; have z2_ := bz.c2; have y0 := bz.hot 0; have y1 := bz.hot 1; have y2 := bz.hot 2
                have hch := Chg.set3 w23 (w22.heap.size) (.slice F0 z.1.length f0) (.slice F1 z.2.1.length f1) (.slice F2 z.2.2.length f2)
                have bz5 := bz.set3 (.slice F0 z.1.length f0) (.slice F1 z.2.1.length f1) (.slice F2 z.2.2.length f2)
                have og5 := og.chgBox bz (by decide) (by decide) hch
                have ox5 := ox.chgBox bz (by decide) (by decide) hch
                have oy5 := oy.chgBox bz (by decide) (by decide) hch
                have oz5 := oz.chgBox bz (by decide) (by decide) hch
                have ho5 := ho.chgBox bz (by decide) hch
                have bG5 : Box (((w23.setCell ⟨w22.heap.size, 0, none⟩ (.slice F0 z.1.length f0)).setCell ⟨w22.heap.size, 1, none⟩ (.slice F1 z.2.1.length f1)).setCell ⟨w22.heap.size, 2, none⟩ (.slice F2 z.2.2.length f2)) (w3.heap.size) 32 #[.slice A0 g.1.length c0, .slice A1 g.2.1.length c1, .slice A2 n c2] := (hch.block _ bG.lt (fun e => by have h5 : w3.heap.size = w22.heap.size := e; omega)).trans bG
                have bX5 : Box (((w23.setCell ⟨w22.heap.size, 0, none⟩ (.slice F0 z.1.length f0)).setCell ⟨w22.heap.size, 1, none⟩ (.slice F1 z.2.1.length f1)).setCell ⟨w22.heap.size, 2, none⟩ (.slice F2 z.2.2.length f2)) (w12.heap.size) 32 #[.slice D0 x.1.length d0, .slice D1 x.2.1.length d1, .slice D2 x.2.2.length d2] := (hch.block _ bX.lt (fun e => by have h5 : w12.heap.size = w22.heap.size := e; omega)).trans bX
                have bY5 : Box (((w23.setCell ⟨w22.heap.size, 0, none⟩ (.slice F0 z.1.length f0)).setCell ⟨w22.heap.size, 1, none⟩ (.slice F1 z.2.1.length f1)).setCell ⟨w22.heap.size, 2, none⟩ (.slice F2 z.2.2.length f2)) (w14.heap.size) 32 #[.slice E0 g.1.length e0, .slice E1 g.2.1.length e1, .slice E2 g.2.2.length e2] := (hch.block _ bY.lt (fun e => by have h5 : w14.heap.size = w22.heap.size := e; omega)).trans bY
                have hw5 := hwN.trans (hch.below hwN.size (fun x hx => by have h5 : x = w22.heap.size := hx; omega))
                go_simp
                refine hK.out _ _ (⟨bG5.c0, bG5.c1, bG5.c2⟩) (fun hHeld => ?_)
                clear hK K
                try simp only [Act.put, List.setIfInBounds_toArray, List.set_cons_zero, List.set_cons_succ]
                refine takeH9 (v := ?_) (by kernel_rfl) (by kernel_rfl) (by kernel_rfl) (fun _ _ _ h => h) hHeld (by rfl) ?_ ?_
                rotate_left; · (intro w hSw; (try dsimp only at hSw); go_simp; try with_reducible rfl)
                try simp only [Act.put, List.setIfInBounds_toArray, List.set_cons_zero, List.set_cons_succ]
                refine wpAnyH_done (by kernel_rfl) ?_ _
                go_wp2_with fail; go_meet
                exact Lib.hid ⟨w22.heap.size, _, _, _, _, _, _, z, rfl, rfl, bz5, oz5.reads, ⟨HRF.out, HRL.out, HRW.out⟩, og5.reads, ox5.reads, oy5.reads, bG5, bX5, bY5, ho5.reads, hw5⟩
            · have bGA := bG.alloc (.cells #[.slice none 0 0, .slice none 0 0, .slice none 0 0] 32)
              go_simp
              refine hK.out _ _ (⟨bGA.c0, bGA.c1, bGA.c2⟩) (fun hHeld => ?_)
              clear hK K
              try simp only [Act.put, List.setIfInBounds_toArray, List.set_cons_zero, List.set_cons_succ]
              clear bGA
              have hlk : wD.heap.size ≤ wD.heap.size := zz
              have hbA : Below wD.heap.size wD (wD.alloc (.cells #[.slice none 0 0, .slice none 0 0, .slice none 0 0] 32)) := below_alloc (Nat.le_refl _) (Below.refl _ _)
              have bz : Box (wD.alloc (.cells #[.slice none 0 0, .slice none 0 0, .slice none 0 0] 32)) wD.heap.size 32 #[.slice none 0 0, .slice none 0 0, .slice none 0 0] := Box.new _ _ _
              replace og := og.below hbA
              replace ox := ox.below hbA
              replace oy := oy.below hbA
              replace bG := bG.on hbA
              replace bX := bX.on hbA
              replace bY := bY.on hbA
              replace ho := ho.below hbA
              replace hwN := below_then hbA hwN.size hwN
              replace zz := Nat.le_trans zz hbA.size
              replace hd := hd.on hbA
              generalize (wD.alloc (.cells #[.slice none 0 0, .slice none 0 0, .slice none 0 0] 32)) = wA at *
              refine callH2 (by kernel_rfl) (fun K hK => ?_)
              go_simp
              go_at_call 10
              refine (below w1 _ b 15 hd (by omega)).mono ?_; rintro e w22 ⟨by_, rfl, hby, hd22, hc22⟩
              replace og := og.chg hc22 (fun y hy => by have h3 : y = b := hy; omega)
              replace ox := ox.chg hc22 (fun y hy => by have h3 : y = b := hy; omega)
              replace oy := oy.chg hc22 (fun y hy => by have h3 : y = b := hy; omega)
              replace bG := (hc22.block _ bG.lt (fun e => by have h3 : w3.heap.size = b := e; omega)).trans bG
              replace bX := (hc22.block _ bX.lt (fun e => by have h3 : w12.heap.size = b := e; omega)).trans bX
              replace bY := (hc22.block _ bY.lt (fun e => by have h3 : w14.heap.size = b := e; omega)).trans bY
              replace bz := (hc22.block _ bz.lt (fun e => by have h3 : wD.heap.size = b := e; omega)).trans bz
              replace ho := ho.chg hc22 (fun y hy e => by have h3 : y = b := e; have := (ho.lt y hy).1; omega)
              replace hwN := hwN.trans (hc22.below hwN.size (fun y hy => by have h3 : y = b := hy; omega))
              replace zz := Nat.le_trans zz hc22.size
              replace bG : Box w22 (w3.heap.size) 32 #[.slice A0 g.1.length c0, .slice A1 g.2.1.length c1, .slice A2 n c2] := bG
              replace bX : Box w22 (w12.heap.size) 32 #[.slice D0 x.1.length d0, .slice D1 x.2.1.length d1, .slice D2 x.2.2.length d2] := bX
              replace bY : Box w22 (w14.heap.size) 32 #[.slice E0 g.1.length e0, .slice E1 g.2.1.length e1, .slice E2 g.2.2.length e2] := bY
              replace bz : Box w22 (wD.heap.size) 32 #[.slice none 0 0, .slice none 0 0, .slice none 0 0] := bz
              have HRK := Lib.hid (rs_ok HF.out hby.1 (by omega) (fun v hv => by have h3 := HP6.out v hv; omega))
              have HRW := Lib.hid (rs_won HF.out hby.1 (by omega) (fun v hv => by have h3 := HP6.out v hv; omega))
              have HRF := Lib.hid (parB_fine (rs_fine HF.out hby.1 (by omega) (fun v hv => by have h3 := HP6.out v hv; omega)))
              have HRL := Lib.hid (show (raiseG g by_).1.length = n by rw [rs_eq HF.out hby.1 (by omega) (fun v hv => by have h3 := HP6.out v hv; omega)]; exact HN.out)
              clear hd22 hc22 hd
              go_wp2_with fail
              refine hK.out _ _ (⟨bG.c0, bG.c1, bG.c2⟩) (fun hHeld => ?_)
              clear hK K
              try simp only [Act.put, List.setIfInBounds_toArray, List.set_cons_zero, List.set_cons_succ]
              refine callH3 (by kernel_rfl) (fun K hK => ?_)
              go_simp
              go_at_call 12
              refine (implRaisedGame _ _ _ g by_ _ _ (Nat.le_refl _) og.reads).mono ?_; rintro e w23 ⟨z0, z1, z2, rfl, oz, hb23⟩
              rw [HRK.out]
              generalize raiseG g by_ = z at *
              obtain ⟨F0, f0, F1, f1, F2, f2, rfl, rfl, rfl⟩ := oz.form
              replace og := og.below hb23
              replace ox := ox.below hb23
              replace oy := oy.below hb23
              replace bG := bG.on hb23
              replace bX := bX.on hb23
              replace bY := bY.on hb23
              replace ho := ho.below hb23
              replace hwN := below_then hb23 hwN.size hwN
              replace zz := Nat.le_trans zz hb23.size
              replace bz := bz.on hb23
              go_wp2_with fail
              refine hK.out _ _ (⟨bG.c0, bG.c1, bG.c2⟩) (fun hHeld => ?_)
              clear hK K
              try simp only [Act.put, List.setIfInBounds_toArray, List.set_cons_zero, List.set_cons_succ]
              refine takeH4 (v := ?_) (by kernel_rfl) (by kernel_rfl) (by kernel_rfl) (fun _ _ _ h => h) hHeld (by rfl) ?_ ?_
              rotate_left; · (intro w hSw; (try dsimp only at hSw); go_simp; try with_reducible rfl)
              try simp only [Act.put, List.setIfInBounds_toArray, List.set_cons_zero, List.set_cons_succ]
              refine takeH5 (v := ?_) (by kernel_rfl) (by kernel_rfl) (by kernel_rfl) (fun _ _ _ h => h) hHeld (by rfl) ?_ ?_
              rotate_left; · (intro w hSw; (try dsimp only at hSw); go_simp; try with_reducible rfl)
              try simp only [Act.put, List.setIfInBounds_toArray, List.set_cons_zero, List.set_cons_succ]
              refine takeH6 (v := ?_) (by kernel_rfl) (by kernel_rfl) (by kernel_rfl) (fun _ _ _ h => h) hHeld (by rfl) ?_ ?_
              rotate_left; · (intro w hSw; (try dsimp only at hSw); go_simp; try with_reducible rfl)
              try simp only [Act.put, List.setIfInBounds_toArray, List.set_cons_zero, List.set_cons_succ]
              refine callH8 (by kernel_rfl) (fun K hK => ?_)
              have z0_ := bz.c0; have z1_ := bz.c1; have z2_ := bz.c2; have y0 := bz.hot 0; have y1 := bz.hot 1; have y2 := bz.hot 2
              have hch := Chg.set3 w23 (wD.heap.size) (.slice F0 z.1.length f0) (.slice F1 z.2.1.length f1) (.slice F2 z.2.2.length f2)
              have bz5 := bz.set3 (.slice F0 z.1.length f0) (.slice F1 z.2.1.length f1) (.slice F2 z.2.2.length f2)
              have og5 := og.chgBox bz (by decide) (by decide) hch
              have ox5 := ox.chgBox bz (by decide) (by decide) hch
              have oy5 := oy.chgBox bz (by decide) (by decide) hch
              have oz5 := oz.chgBox bz (by decide) (by decide) hch
              have ho5 := ho.chgBox bz (by decide) hch
              have bG5 : Box (((w23.setCell ⟨wD.heap.size, 0, none⟩ (.slice F0 z.1.length f0)).setCell ⟨wD.heap.size, 1, none⟩ (.slice F1 z.2.1.length f1)).setCell ⟨wD.heap.size, 2, none⟩ (.slice F2 z.2.2.length f2)) (w3.heap.size) 32 #[.slice A0 g.1.length c0, .slice A1 g.2.1.length c1, .slice A2 n c2] := (hch.block _ bG.lt (fun e => by have h5 : w3.heap.size = wD.heap.size := e; omega)).trans bG
              have bX5 : Box (((w23.setCell ⟨wD.heap.size, 0, none⟩ (.slice F0 z.1.length f0)).setCell ⟨wD.heap.size, 1, none⟩ (.slice F1 z.2.1.length f1)).setCell ⟨wD.heap.size, 2, none⟩ (.slice F2 z.2.2.length f2)) (w12.heap.size) 32 #[.slice D0 x.1.length d0, .slice D1 x.2.1.length d1, .slice D2 x.2.2.length d2] := (hch.block _ bX.lt (fun e => by have h5 : w12.heap.size = wD.heap.size := e; omega)).trans bX
              have bY5 : Box (((w23.setCell ⟨wD.heap.size, 0, none⟩ (.slice F0 z.1.length f0)).setCell ⟨wD.heap.size, 1, none⟩ (.slice F1 z.2.1.length f1)).setCell ⟨wD.heap.size, 2, none⟩ (.slice F2 z.2.2.length f2)) (w14.heap.size) 32 #[.slice E0 g.1.length e0, .slice E1 g.2.1.length e1, .slice E2 g.2.2.length e2] := (hch.block _ bY.lt (fun e => by have h5 : w14.heap.size = wD.heap.size := e; omega)).trans bY
              have hw5 := hwN.trans (hch.below hwN.size (fun x hx => by have h5 : x = wD.heap.size := hx; omega))
              go_simp
              refine hK.out _ _ (⟨bG5.c0, bG5.c1, bG5.c2⟩) (fun hHeld => ?_)
              clear hK K
              try simp only [Act.put, List.setIfInBounds_toArray, List.set_cons_zero, List.set_cons_succ]
              refine takeH9 (v := ?_) (by kernel_rfl) (by kernel_rfl) (by kernel_rfl) (fun _ _ _ h => h) hHeld (by rfl) ?_ ?_
              rotate_left; · (intro w hSw; (try dsimp only at hSw); go_simp; try with_reducible rfl)
              try simp only [Act.put, List.setIfInBounds_toArray, List.set_cons_zero, List.set_cons_succ]
              refine wpAnyH_done (by kernel_rfl) ?_ _
              go_wp2_with fail; go_meet
              exact Lib.hid ⟨wD.heap.size, _, _, _, _, _, _, z, rfl, rfl, bz5, oz5.reads, ⟨HRF.out, HRL.out, HRW.out⟩, og5.reads, ox5.reads, oy5.reads, bG5, bX5, bY5, ho5.reads, hw5⟩
          case rest =>
            obtain ⟨bb, F0, F1, F2, f0, f1, f2, z, rfl, rfl, bZ, rz, ⟨pz, lz, wz⟩, rg, rx, ry, bG, bX, bY, rO, hwc⟩ := hcut.out
            have HPz := Lib.hid pz; have HLz := Lib.hid lz; have HWz := Lib.hid wz
            clear hcut pz lz wz og ox oy hd ho hw15
            have t0 := bG.c0; have t1 := bG.c1; have t2 := bG.c2
            go_wp2_with fail
            refine (solvedN _ _ _ g n _ _ (Nat.le_refl _) rg HG.out.1 HN.out).mono ?_; rintro e w20 ⟨X, X', x1, x1', rfl, ra, hb20⟩
            replace rg := rg.keep (keeps_below hb20); replace rx := rx.keep (keeps_below hb20); replace ry := ry.keep (keeps_below hb20); replace rz := rz.keep (keeps_below hb20); replace rO := rO.keep (keeps_below hb20)
            replace bG := bG.on hb20; replace bX := bX.on hb20; replace bY := bY.on hb20; replace bZ := bZ.on hb20
            have hw20 := below_then hb20 hwc.size hwc
            clear t0 t1 t2 hb20 hwc
            have t0 := bX.c0; have t1 := bX.c1; have t2 := bX.c2
            go_wp2_with fail
            refine (solvedN _ _ _ x n _ _ (Nat.le_refl _) rx HXp.out HXl.out).mono ?_; rintro e w21 ⟨Y, Y', y1, y1', rfl, rb, hb21⟩
            replace rg := rg.keep (keeps_below hb21); replace ry := ry.keep (keeps_below hb21); replace rz := rz.keep (keeps_below hb21); replace rO := rO.keep (keeps_below hb21); replace ra := ra.below hb21
            replace bG := bG.on hb21; replace bY := bY.on hb21; replace bZ := bZ.on hb21
            have hw21 := below_then hb21 hw20.size hw20
            clear t0 t1 t2 hb21 hw20 bX rx
            have t0 := bG.c0; have t1 := bG.c1; have t2 := bG.c2
            have q0 := bY.c0; have q1 := bY.c1; have q2 := bY.c2
            go_wp2_with fail
            refine (sameParity _ _ _ _ _ _ g _ _ (Nat.le_refl _) ry rg HG.out.1).mono ?_; rintro e w22 ⟨rfl, hb22⟩
            replace rz := rz.keep (keeps_below hb22); replace rO := rO.keep (keeps_below hb22); replace ra := ra.below hb22; replace rb := rb.below hb22; replace bZ := bZ.on hb22
            have hw22 := below_then hb22 hw21.size hw21
            clear t0 t1 t2 q0 q1 q2 hb22 hw21 bG bY ry rg
            have t0 := bZ.c0; have t1 := bZ.c1; have t2 := bZ.c2
            go_wp2_with fail
            refine (solvedN _ _ _ z n _ _ (Nat.le_refl _) rz HPz.out HLz.out).mono ?_; rintro e w23 ⟨Z, Z', z1, z1', rfl, rc, hb23⟩
            replace rO := rO.keep (keeps_below hb23); replace ra := ra.below hb23; replace rb := rb.below hb23
            have hw23 := below_then hb23 hw22.size hw22
            clear t0 t1 t2 hb23 hw22 bZ rz
            go_wp2_with fail
            refine (likeInts _ _ _ _ _ _ _ _ _ rc.reads ra.reads).mono ?_; rintro e w24 ⟨rfl, q24⟩
            rw [HWz.out, eqL_self]
            have hb24 := below_qt q24 (Below.refl w23.heap.size w23)
            replace rO := rO.keep (keeps_below hb24); replace ra := (ra.below hb24).reads; replace rb := (rb.below hb24).reads
            have hw24 := below_then hb24 hw23.size hw23
            clear hb24 q24 hw23 rc
            go_wp2_with fail
            go_loopw [19] (fun i wr => ∃ v : Nat, v ≤ n ∧ i = .int .i64 v ∧ Below w24.heap.size w24 wr) (fun i _ => n - (intOf i).toNat)
            case atStart => exact ⟨0, Nat.zero_le _, rfl, Below.refl _ _⟩
            case round =>
              obtain ⟨v, hv, rfl, hq⟩ := hrel
              by_cases hlt : v < n
              · obtain ⟨bc, oc, e_, kc⟩ := (rO.keep (keeps_below hq)).at_ hlt
                injection e_ with e_; injection e_ with e1_ e2_
                subst e1_; subst e2_
                rw [Nat.zero_add] at kc
                obtain ⟨x', hx'⟩ : ∃ x' : Nat, gi xs v = (x' : Int) := ⟨(gi xs v).toNat, by have := HO.out.2.1 v hlt; omega⟩
                have hxn : x' < n := by have := HO.out.2.1 v hlt; omega
                rw [hx'] at kc
                obtain ⟨bn, on_, rfl, kn⟩ := (rb.keep (keeps_below hq)).at_ hlt
                obtain ⟨bw, ow, rfl, kw⟩ := (ra.keep (keeps_below hq)).at_ hxn
                rw [HXw.out v hlt, hx', Int.toNat_natCast] at kn
                have hvi : (v : Int) < (n : Int) := by omega
                have hv0 : (0 : Int) ≤ (v : Int) := by omega
                have hxi : (x' : Int) < (n : Int) := by omega
                have hx0 : (0 : Int) ≤ (x' : Int) := by omega
                clear hx'
                go_wp2_with fail
                go_quiet (fail)
                go_wp2
                exact ⟨⟨v + 1, by omega, by go_num, below_drewN hq _⟩, by simp [intOf]; omega⟩
              · obtain rfl : n = v := by omega
                go_wp2
                go_ret
                exact ⟨rfl, below_then hq hw24.size hw24⟩
theorem own : ownKnob Try.prog.godebug = none := by kernel_rfl
theorem laidOut : laidOutB Try.prog = true := by kernel_rfl
set_option maxRecDepth 100000 in
theorem lifted (os : Os) (started : os.Started) (H : Type) (enc : TypeId × Value → H) :
    ReturnsInHanded {} Try.checked os 3 .any (Rows.fnRenamedSpec.pre6 enc Try.prog Try.f3 Rows.fnRenamedRow.domain false) (Rows.fnRenamedSpec.post enc Try.prog Try.f3 false true false false) := by
  refine returnsInHanded_of_change (C := Try.checked) own started (by kernel_rfl) Try.func3
    (ChangeSpec.witness6 (enc := enc) (C := Try.checked) false ⟨#[], #[.slice none 0 0], []⟩ 8 (by kernel_rfl) (by kernel_rfl) (by kernel_rfl) (by kernel_rfl)) ?_
  intro W base args ds gs before hval0 hW hcnd _
  have hval : ∀ (j : Nat) t v, Try.f3.params[j]? = some t → args[j]? = some v → Value.okWide Try.prog W .any base t v := hval0
  have hW' := hW
  obtain ⟨p, q, hA0, hV, rfl, hfz, hnd⟩ := hW
  have hA : DataW.TrodAll enc Try.prog W 0 (fun _ => true) true Try.f3.params.toList args.toList ds p := hA0
  rw [Try.params3] at hA hval
  obtain ⟨v0, vs0, d0, ds0, p0, q0, hargs, rfl, rfl, h0, r0⟩ := trodAll_cons hA
  obtain ⟨rfl, rfl, rfl⟩ := trodAll_nil r0
  obtain rfl : args = #[v0] := by cases args; simp_all
  obtain ⟨rfl, rfl⟩ := trodVars_none hV
  have k0 := h0
  have lt0 : ∀ x ∈ p0, x.block < W.heap.size := by obtain ⟨m, hm⟩ := k0; exact DataW.trod_lt m _ _ _ hm
  obtain ⟨fuel0, hf0⟩ := h0
  obtain ⟨A0, n0, c0, rfl⟩ := okWide_slice Try.underlying22 (hval 0 22 v0 rfl rfl)
  obtain ⟨B0, m0, d0, ps0, e0, rr0⟩ := ry_of_trod (c := .slice A0 n0 c0) Try.underlying22 Try.underlying5 (by kernel_rfl) (by intro; rfl) hf0
  injection e0 with ea0 eb0 ec0
  subst ea0; subst eb0; subst ec0
  clear hA0 hval0
  refine (walk _ _ _ _ W rr0).mono fun e W' ⟨he, bel⟩ => ?_
  subst he
  exact ⟨_, rfl, _, _, _, [], _, [], hW', trodAll_mk1 (shut_bool Try.underlying4 _), (trodAll_cons_mk (Below.trod laidOut (by kernel_rfl) (of_decide_eq_true (by kernel_rfl)) k0 bel lt0) trodAll_mk0), rfl, bel.frame _, fun h => by cases h⟩
theorem over : Rows.fnRenamedRow.holds Try.pinned (OpenSpec.ofChange Rows.fnRenamedSpec) :=
  OpenClaim.holds_of_wide 3 Try.f3 rfl rfl rfl rfl rfl rfl rfl ⟨rfl, rfl, rfl, rfl, rfl⟩ rfl rfl rfl rfl rfl (by kernel_rfl) Try.func3 (by kernel_rfl)
    (of_decide_eq_true (by kernel_rfl)) (by unfold Func.isWrapper; first | (rw [if_pos (by decide +kernel)]; kernel_rfl) | (rw [if_neg (by decide +kernel)]; exact ⟨rfl, rfl⟩))
    (fun os started H enc _ => lifted os started H enc)
/-- the statement -/
theorem proved : Rows.FnRenamedSaid := over
end Go.Proofs.Ytngadlpfheakiaa.fnRenamed


