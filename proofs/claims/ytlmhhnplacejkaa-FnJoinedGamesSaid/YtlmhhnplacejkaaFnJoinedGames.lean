/- FnJoinedGames: for every input the law returns true, and the argument reads as it read before. No condition. -/
import Derived.Test.YtlmhhnplacejkaaOpenY
import Derived.Test.YtlmhhnplacejkaaInto
import Derived.Test.YtlmhhnplacejkaaJoinL
import Derived.Test.YtlmhhnplacejkaaSolJ
import Derived.Test.YtlmhhnplacejkaaJoinedI
namespace Go.Proofs.Ytlmhhnplacejkaa.fnJoinedGames
open Go.ChangeShapes Go.WideShapes Go.ChangeAt Go.RowKit

theorem twoH_7_9 {P : Program} {Q : Exit → Act → World → Prop} {md : Region.Mode} {S : World → Prop} {fuel : Nat} {listed : Array Bool} {a : Act} {w : World} {o0 o1 o2 o3 o4 o5 o6 o7 o8 o9 : Oper} {r : List Oper} (hr : Region.ready md (List.toArray (o0 :: o1 :: o2 :: o3 :: o4 :: o5 :: o6 :: o7 :: o8 :: o9 :: r)) listed = [7, 9])
    (h1 : ∀ K' : Act → World → Prop, Shut (∀ a w, S w → (S w → wpAnyH P md (List.toArray (o0 :: o1 :: o2 :: o3 :: o4 :: o5 :: o6 :: o7 :: o8 :: o9 :: r)) Q S fuel (listed.setIfInBounds 7 true) a w) → K' a w) → if Region.wanted o7 (yielded (List.toArray (o0 :: o1 :: o2 :: o3 :: o4 :: o5 :: o6 :: o7 :: o8 :: o9 :: r)) a.tmps) = true then Oper.wp P o7 a w K' Q else K' (a.put o7.dst undef) w) (h2 : ∀ K' : Act → World → Prop, Shut (∀ a w, S w → (S w → wpAnyH P md (List.toArray (o0 :: o1 :: o2 :: o3 :: o4 :: o5 :: o6 :: o7 :: o8 :: o9 :: r)) Q S fuel (listed.setIfInBounds 9 true) a w) → K' a w) → if Region.wanted o9 (yielded (List.toArray (o0 :: o1 :: o2 :: o3 :: o4 :: o5 :: o6 :: o7 :: o8 :: o9 :: r)) a.tmps) = true then Oper.wp P o9 a w K' Q else K' (a.put o9.dst undef) w) : wpAnyH P md (List.toArray (o0 :: o1 :: o2 :: o3 :: o4 :: o5 :: o6 :: o7 :: o8 :: o9 :: r)) Q S (fuel + 1) listed a w :=
  wpAnyH_ready (rs := [7, 9]) hr (by simp) (AllReadyH.cons rfl h1 (AllReadyH.cons rfl h2 AllReadyH.nil))
theorem twoH_9_11 {P : Program} {Q : Exit → Act → World → Prop} {md : Region.Mode} {S : World → Prop} {fuel : Nat} {listed : Array Bool} {a : Act} {w : World} {o0 o1 o2 o3 o4 o5 o6 o7 o8 o9 o10 o11 : Oper} {r : List Oper} (hr : Region.ready md (List.toArray (o0 :: o1 :: o2 :: o3 :: o4 :: o5 :: o6 :: o7 :: o8 :: o9 :: o10 :: o11 :: r)) listed = [9, 11])
    (h1 : ∀ K' : Act → World → Prop, Shut (∀ a w, S w → (S w → wpAnyH P md (List.toArray (o0 :: o1 :: o2 :: o3 :: o4 :: o5 :: o6 :: o7 :: o8 :: o9 :: o10 :: o11 :: r)) Q S fuel (listed.setIfInBounds 9 true) a w) → K' a w) → if Region.wanted o9 (yielded (List.toArray (o0 :: o1 :: o2 :: o3 :: o4 :: o5 :: o6 :: o7 :: o8 :: o9 :: o10 :: o11 :: r)) a.tmps) = true then Oper.wp P o9 a w K' Q else K' (a.put o9.dst undef) w) (h2 : ∀ K' : Act → World → Prop, Shut (∀ a w, S w → (S w → wpAnyH P md (List.toArray (o0 :: o1 :: o2 :: o3 :: o4 :: o5 :: o6 :: o7 :: o8 :: o9 :: o10 :: o11 :: r)) Q S fuel (listed.setIfInBounds 11 true) a w) → K' a w) → if Region.wanted o11 (yielded (List.toArray (o0 :: o1 :: o2 :: o3 :: o4 :: o5 :: o6 :: o7 :: o8 :: o9 :: o10 :: o11 :: r)) a.tmps) = true then Oper.wp P o11 a w K' Q else K' (a.put o11.dst undef) w) : wpAnyH P md (List.toArray (o0 :: o1 :: o2 :: o3 :: o4 :: o5 :: o6 :: o7 :: o8 :: o9 :: o10 :: o11 :: r)) Q S (fuel + 1) listed a w :=
  wpAnyH_ready (rs := [9, 11]) hr (by simp) (AllReadyH.cons rfl h1 (AllReadyH.cons rfl h2 AllReadyH.nil))
theorem step_of_want {P : Program} {ops : Array Oper} {o : Oper} {a : Act} {w : World} {K : Act → World → Prop} {Q : Exit → Act → World → Prop} {E : Prop} (hw : Region.wanted o (yielded ops a.tmps) = true) (h : Oper.wp P o a w K Q) : if Region.wanted o (yielded ops a.tmps) = true then Oper.wp P o a w K Q else E := by
  rw [if_pos hw]; exact h
set_option maxRecDepth 100000 in
set_option maxHeartbeats 3200000 in
theorem walk (A : Option Addr) (n c : Nat) (l : List Int) (w : World) (hy : RY w A n c l) :
    Calls Try.prog 5 #[.slice A n c] w fun e w' => e = .returned (.bool true) ∧ Below w.heap.size w w' := by
  have b1 := hy.cap; have b2 := hy.top
  by_cases hb : 4096 < n
  · have E := Lib.hid (show decide (4096 < n) = true from decide_eq_true hb)
    go_enter Try.func5, Try.ntmps5
    go_wp2_with fail
    refine (big _ _ _ _ _ hy).mono ?_; rintro e w1 ⟨rfl, q1⟩
    rw [E.out]
    go_wp2
    go_ret
    exact ⟨rfl, below_qt q1 (Below.refl _ _)⟩
  have E := Lib.hid (show decide (4096 < n) = false from decide_eq_false hb)
  have hn : n ≤ 4096 := by omega
  clear hb
  go_enter Try.func5, Try.ntmps5
  go_wp2_with fail
  refine (big _ _ _ _ _ hy).mono ?_; rintro e w1 ⟨rfl, q1⟩
  rw [E.out]
  have hw1 := below_qt q1 (Below.refl w.heap.size w)
  have sz1 := hw1.size
  go_wp2_with fail
  refine (roll A n c l _ _ (hy.keep (keeps_below hw1)) hn).mono ?_; rintro e w2 ⟨b, rfl, hd2⟩
  have hw2 := below_then hd2.bel sz1 hw1
  have lo2 := hd2.lo
  have up2 := hd2.lt
  have hwb : w.heap.size ≤ b := by omega
  clear hw1 q1 hy E b1 b2
  go_wp2_with fail
  refine (w9Game _ _ b 6 hd2 (by omega) (by omega)).mono ?_; rintro e w3 ⟨s0, s1, s2, g, rfl, HG, og, hd3, hc3⟩
  obtain ⟨A0, c0, A1, c1, A2, c2, rfl, rfl, rfl⟩ := og.form
  have hw3 : Below w.heap.size w w3 := hw2.trans (hc3.below hw2.size (fun y hy => by have h3 : y = b := hy; omega))
  have sz3 := hc3.size
  have hba3 : Below w3.heap.size w3 (w3.alloc (.cells #[.slice A0 g.1.length c0, .slice A1 g.2.1.length c1, .slice A2 g.2.2.length c2] 33)) := below_alloc (Nat.le_refl _) (Below.refl _ _)
  have bG : Box (w3.alloc (.cells #[.slice A0 g.1.length c0, .slice A1 g.2.1.length c1, .slice A2 g.2.2.length c2] 33)) w3.heap.size 33 #[.slice A0 g.1.length c0, .slice A1 g.2.1.length c1, .slice A2 g.2.2.length c2] := Box.new _ _ _
  replace hd3 := hd3.on hba3; replace og := og.below hba3
  have hw4 := below_then hba3 hw3.size hw3
  have sz4 := hba3.size
  clear hc3 hba3 hw3
  go_wp2_with fail
  generalize w3.alloc (.cells #[.slice A0 g.1.length c0, .slice A1 g.2.1.length c1, .slice A2 g.2.2.length c2] 33) = w4 at *
  have lG3 : w3.heap.size < w4.heap.size := bG.lt
  refine (w9Game _ _ b 6 hd3 (by omega) (by omega)).mono ?_; rintro e w5 ⟨t0, t1, t2, h, rfl, HH, oh, hd5, hc5⟩
  obtain ⟨D0, d0, D1, d1, D2, d2, rfl, rfl, rfl⟩ := oh.form
  replace og := og.chg hc5 (fun y hy => by have h3 : y = b := hy; omega)
  replace bG : Box w5 w3.heap.size 33 #[.slice A0 g.1.length c0, .slice A1 g.2.1.length c1, .slice A2 g.2.2.length c2] := (hc5.block _ bG.lt (fun e => by have h3 : w3.heap.size = b := e; omega)).trans bG
  have hw5 : Below w.heap.size w w5 := hw4.trans (hc5.below hw4.size (fun y hy => by have h3 : y = b := hy; omega))
  have sz5 := hc5.size
  have hba5 : Below w5.heap.size w5 (w5.alloc (.cells #[.slice D0 h.1.length d0, .slice D1 h.2.1.length d1, .slice D2 h.2.2.length d2] 33)) := below_alloc (Nat.le_refl _) (Below.refl _ _)
  have bH : Box (w5.alloc (.cells #[.slice D0 h.1.length d0, .slice D1 h.2.1.length d1, .slice D2 h.2.2.length d2] 33)) w5.heap.size 33 #[.slice D0 h.1.length d0, .slice D1 h.2.1.length d1, .slice D2 h.2.2.length d2] := Box.new _ _ _
  replace og := og.below hba5; replace oh := oh.below hba5; replace bG := bG.on hba5
  have hw6 := below_then hba5 hw5.size hw5
  have sz6 := hba5.size
  clear hc5 hba5 hw4 hw5 hd3 hd5 hd2 hw2
  have p0 := bG.c0; have p1 := bG.c1; have p2 := bG.c2; have q0 := bH.c0; have q1 := bH.c1; have q2 := bH.c2
  go_wp2_with fail
  generalize w5.alloc (.cells #[.slice D0 h.1.length d0, .slice D1 h.2.1.length d1, .slice D2 h.2.2.length d2] 33) = w6 at *
  have lH3 : w5.heap.size < w6.heap.size := bH.lt
  refine (implJoinedGame _ _ _ _ _ _ g h _ _ (Nat.le_refl _) og.reads oh.reads).mono ?_; rintro e w7 ⟨u0, u1, u2, rfl, ox, hb7⟩
  have hfg := finePar_of HG.out.1; have hfh := finePar_of HH.out.1
  have hsm : g.1.length + h.1.length ≤ 256 := by have h1 := HG.out.2.1; have h2 := HH.out.2.1; omega
  rw [join_ok hfg hfh hsm]
  have HPx := Lib.hid (parB_fine (join_fine hfg hfh hsm))
  have HWx := Lib.hid (join_won hfg hfh hsm)
  obtain ⟨ng, hng⟩ : ∃ n, g.1.length = n := ⟨_, rfl⟩
  obtain ⟨nh, hnh⟩ : ∃ n, h.1.length = n := ⟨_, rfl⟩
  obtain ⟨nx, hnx⟩ : ∃ n, (joinG g h).1.length = n := ⟨_, rfl⟩
  have HNg := Lib.hid hng; have HNh := Lib.hid hnh; have HNx := Lib.hid hnx
  have HWg := Lib.hid (show (wonL g).length = ng by rw [wonL_len]; exact hng)
  have HWL := Lib.hid (show (wonL g ++ wonL h).length = nx by rw [← hnx, join_len1 hfg hfh hsm, List.length_append, wonL_len, wonL_len])
  have hngl : (wonL g).length ≤ 4194304 := by rw [wonL_len]; omega
  have hngs : ng ≤ 4194304 := by omega
  have hnhs : nh ≤ 4194304 := by omega
  have HPg := Lib.hid HG.out.1; have HPh := Lib.hid HH.out.1
  clear hng hnh hnx hsm hfg hfh
  generalize joinG g h = x at *
  have HEQ := Lib.hid (show eqL (wonL x) (wonL g ++ wonL h) = true from decide_eq_true HWx.out)
  obtain ⟨E0, e0, E1, e1, E2, e2, rfl, rfl, rfl⟩ := ox.form
  have hw7 := below_then hb7 hw6.size hw6
  have sz7 := hb7.size
  have hba7 : Below w7.heap.size w7 (w7.alloc (.cells #[.slice E0 x.1.length e0, .slice E1 x.2.1.length e1, .slice E2 x.2.2.length e2] 33)) := below_alloc (Nat.le_refl _) (Below.refl _ _)
  have bX : Box (w7.alloc (.cells #[.slice E0 x.1.length e0, .slice E1 x.2.1.length e1, .slice E2 x.2.2.length e2] 33)) w7.heap.size 33 #[.slice E0 x.1.length e0, .slice E1 x.2.1.length e1, .slice E2 x.2.2.length e2] := Box.new _ _ _
  replace og := (og.below hb7).below hba7; replace oh := (oh.below hb7).below hba7; replace ox := ox.below hba7; replace bG := (bG.on hb7).on hba7; replace bH := (bH.on hb7).on hba7
  have hw8 := below_then hba7 hw7.size hw7
  clear hb7 hba7 hw6 hw7 p0 p1 p2 q0 q1 q2
  go_wp2_with fail
  generalize w7.alloc (.cells #[.slice E0 x.1.length e0, .slice E1 x.2.1.length e1, .slice E2 x.2.2.length e2] 33) = w8 at *
  have hdr := Below.drew (Below.refl w8.heap.size w8)
  replace og := og.below hdr; replace oh := oh.below hdr; replace ox := ox.below hdr
  replace bG := bG.on hdr; replace bH := bH.on hdr; replace bX := bX.on hdr
  have hwD := below_then hdr hw8.size hw8
  refine wp_region_held_drew (S := (fun w' => w'.cell? ⟨w7.heap.size, 0, none⟩ = some (.slice E0 x.1.length e0) ∧ w'.cell? ⟨w7.heap.size, 1, none⟩ = some (.slice E1 x.2.1.length e1) ∧ w'.cell? ⟨w7.heap.size, 2, none⟩ = some (.slice E2 x.2.2.length e2) ∧ w'.cell? ⟨w3.heap.size, 0, none⟩ = some (.slice A0 g.1.length c0) ∧ w'.cell? ⟨w3.heap.size, 1, none⟩ = some (.slice A1 g.2.1.length c1) ∧ w'.cell? ⟨w3.heap.size, 2, none⟩ = some (.slice A2 g.2.2.length c2) ∧ w'.cell? ⟨w5.heap.size, 0, none⟩ = some (.slice D0 h.1.length d0) ∧ w'.cell? ⟨w5.heap.size, 1, none⟩ = some (.slice D1 h.2.1.length d1) ∧ w'.cell? ⟨w5.heap.size, 2, none⟩ = some (.slice D2 h.2.2.length d2))) (by kernel_rfl) (⟨bX.c0, bX.c1, bX.c2, bG.c0, bG.c1, bG.c2, bH.c0, bH.c1, bH.c2⟩) (fun hHeld => ?_)
  clear hdr hw8
  generalize w8.drew = wD at *
  have lbX : w7.heap.size < wD.heap.size := bX.lt
  have lbG : w3.heap.size < wD.heap.size := bG.lt
  have lbH : w5.heap.size < wD.heap.size := bH.lt
  have hW := Below.refl wD.heap.size wD
  refine takeH0 (v := ?_) (by kernel_rfl) (by kernel_rfl) (by kernel_rfl) (fun _ _ _ h => h) hHeld (by rfl) ?_ ?_
  rotate_left; · (intro w hSw; (try dsimp only at hSw); go_simp; try with_reducible rfl)
  try simp only [Act.put, List.setIfInBounds_toArray, List.set_cons_zero, List.set_cons_succ]
  refine takeH1 (v := ?_) (by kernel_rfl) (by kernel_rfl) (by kernel_rfl) (fun _ _ _ h => h) hHeld (by rfl) ?_ ?_
  rotate_left; · (intro w hSw; (try dsimp only at hSw); go_simp; try with_reducible rfl)
  try simp only [Act.put, List.setIfInBounds_toArray, List.set_cons_zero, List.set_cons_succ]
  refine takeH2 (v := ?_) (by kernel_rfl) (by kernel_rfl) (by kernel_rfl) (fun _ _ _ h => h) hHeld (by rfl) ?_ ?_
  rotate_left; · (intro w hSw; (try dsimp only at hSw); go_simp; try with_reducible rfl)
  try simp only [Act.put, List.setIfInBounds_toArray, List.set_cons_zero, List.set_cons_succ]
  refine callH3 (by kernel_rfl) (fun K hK => ?_)
  go_simp
  go_at_call 35
  refine (specParityOk _ _ _ x _ _ (Nat.le_refl _) (ox.reads.keep (keeps_below hW))).mono ?_; rintro e wP ⟨rfl, hbP⟩
  rw [HPx.out]
  replace hW := below_then hbP hW.size hW
  replace bX := bX.on hbP
  replace bG := bG.on hbP
  replace bH := bH.on hbP
  go_wp2_with fail
  refine hK.out _ _ (⟨bX.c0, bX.c1, bX.c2, bG.c0, bG.c1, bG.c2, bH.c0, bH.c1, bH.c2⟩) (fun hHeld => ?_)
  clear hK K
  try simp only [Act.put, List.setIfInBounds_toArray, List.set_cons_zero, List.set_cons_succ]
  refine takeH4 (v := ?_) (by kernel_rfl) (by kernel_rfl) (by kernel_rfl) (fun _ _ _ h => h) hHeld (by rfl) ?_ ?_
  rotate_left; · (intro w hSw; (try dsimp only at hSw); go_simp; try with_reducible rfl)
  try simp only [Act.put, List.setIfInBounds_toArray, List.set_cons_zero, List.set_cons_succ]
  refine takeH5 (v := ?_) (by kernel_rfl) (by kernel_rfl) (by kernel_rfl) (fun _ _ _ h => h) hHeld (by rfl) ?_ ?_
  rotate_left; · (intro w hSw; (try dsimp only at hSw); go_simp; try with_reducible rfl)
  try simp only [Act.put, List.setIfInBounds_toArray, List.set_cons_zero, List.set_cons_succ]
  refine takeH6 (v := ?_) (by kernel_rfl) (by kernel_rfl) (by kernel_rfl) (fun _ _ _ h => h) hHeld (by rfl) ?_ ?_
  rotate_left; · (intro w hSw; (try dsimp only at hSw); go_simp; try with_reducible rfl)
  try simp only [Act.put, List.setIfInBounds_toArray, List.set_cons_zero, List.set_cons_succ]
  refine takeH10 (v := ?_) (by kernel_rfl) (by kernel_rfl) (by kernel_rfl) (fun _ _ _ h => h) hHeld (by rfl) ?_ ?_
  rotate_left; · (intro w hSw; (try dsimp only at hSw); go_simp; try with_reducible rfl)
  try simp only [Act.put, List.setIfInBounds_toArray, List.set_cons_zero, List.set_cons_succ]
  refine takeH14 (v := ?_) (by kernel_rfl) (by kernel_rfl) (by kernel_rfl) (fun _ _ _ h => h) hHeld (by rfl) ?_ ?_
  rotate_left; · (intro w hSw; (try dsimp only at hSw); go_simp; try with_reducible rfl)
  try simp only [Act.put, List.setIfInBounds_toArray, List.set_cons_zero, List.set_cons_succ]
  refine twoH_7_9 (by kernel_rfl) (fun K hK => ?_) (fun K hK => ?_)
  · go_simp
    go_at_call 37
    refine (solvedN _ _ _ x nx _ _ (Nat.le_refl _) (ox.reads.keep (keeps_below hW)) HPx.out HNx.out).mono ?_; rintro e w7 ⟨X7, Y7, x7, y7, rfl, r7, hb7⟩
    replace r7 := r7.more hW.size
    replace hW := below_then hb7 hW.size hW
    replace bX := bX.on hb7
    replace bG := bG.on hb7
    replace bH := bH.on hb7
    go_wp2_with fail
    refine hK.out _ _ (⟨bX.c0, bX.c1, bX.c2, bG.c0, bG.c1, bG.c2, bH.c0, bH.c1, bH.c2⟩) (fun hHeld => ?_)
    clear hK K
    try simp only [Act.put, List.setIfInBounds_toArray, List.set_cons_zero, List.set_cons_succ]
    refine takeH8 (v := ?_) (by kernel_rfl) (by kernel_rfl) (by kernel_rfl) (fun _ _ _ h => h) hHeld (by rfl) ?_ ?_
    rotate_left; · (intro w hSw; (try dsimp only at hSw); go_simp; try with_reducible rfl)
    try simp only [Act.put, List.setIfInBounds_toArray, List.set_cons_zero, List.set_cons_succ]
    refine twoH_9_11 (by kernel_rfl) (fun K hK => ?_) (fun K hK => ?_)
    · have bXA := bX.alloc (.cells #[] 2)
      have bGA := bG.alloc (.cells #[] 2)
      have bHA := bH.alloc (.cells #[] 2)
      go_simp
      refine hK.out _ _ (⟨bXA.c0, bXA.c1, bXA.c2, bGA.c0, bGA.c1, bGA.c2, bHA.c0, bHA.c1, bHA.c2⟩) (fun hHeld => ?_)
      clear hK K
      try simp only [Act.put, List.setIfInBounds_toArray, List.set_cons_zero, List.set_cons_succ]
      have hbA : Below w7.heap.size w7 (w7.alloc (.cells #[] 2)) := below_alloc (Nat.le_refl _) (Below.refl _ _)
      have n7 : ∀ z, (Value.slice X7 nx x7).ownBlock = some z → z ≠ w7.heap.size := fun z hz e => by have := (r7.lt z hz).2; omega
      have r9 : OI 2 (w7.alloc (.cells #[] 2)) wD.heap.size (.slice (some ⟨w7.heap.size, 0, none⟩) 0 0) [] := OI.empty (E := 2) (w := w7) hW.size
      have s9 : w7.heap.size + 1 ≤ (w7.alloc (.cells #[] 2)).heap.size := by simp
      replace hW := below_then hbA hW.size hW
      replace bX := bX.on hbA
      replace bG := bG.on hbA
      replace bH := bH.on hbA
      replace r7 := r7.below hbA
      clear bXA bGA bHA
      generalize (w7.alloc (.cells #[] 2)) = wA at *
      refine callH11 (by kernel_rfl) (fun K hK => ?_)
      go_simp
      go_at_call 37
      refine (solvedN _ _ _ g ng _ _ (Nat.le_refl _) (og.reads.keep (keeps_below hW)) HPg.out HNg.out).mono ?_; rintro e w11 ⟨X11, Y11, x11, y11, rfl, r11, hb11⟩
      have n11 : ∀ z, (Value.slice X11 ng x11).ownBlock = some z → z ≠ w7.heap.size := fun z hz e => by have := (r11.lt z hz).1; omega
      replace r11 := r11.more hW.size
      replace hW := below_then hb11 hW.size hW
      replace bX := bX.on hb11
      replace bG := bG.on hb11
      replace bH := bH.on hb11
      replace r7 := r7.below hb11
      replace r9 := r9.below hb11
      replace s9 := Nat.le_trans s9 hb11.size
      go_wp2_with fail
      refine hK.out _ _ (⟨bX.c0, bX.c1, bX.c2, bG.c0, bG.c1, bG.c2, bH.c0, bH.c1, bH.c2⟩) (fun hHeld => ?_)
      clear hK K
      try simp only [Act.put, List.setIfInBounds_toArray, List.set_cons_zero, List.set_cons_succ]
      refine takeH12 (v := ?_) (by kernel_rfl) (by kernel_rfl) (by kernel_rfl) (fun _ _ _ h => h) hHeld (by rfl) ?_ ?_
      rotate_left; · (intro w hSw; (try dsimp only at hSw); go_simp; try with_reducible rfl)
      try simp only [Act.put, List.setIfInBounds_toArray, List.set_cons_zero, List.set_cons_succ]
      refine callH13 (by kernel_rfl) (fun K hK => ?_)
      refine step_of_want (by rfl) (wp_appI (.tmp 31) (.tmp 34) (by rfl) w11 wD.heap.size (.slice (some ⟨w7.heap.size, 0, none⟩) 0 0) [] (by rfl) r9 X11 ng x11 (wonL g) (by rfl) r11.reads (by simp) hngs hW.size ?_)
      intro v13 w13 ho13 hb13 hc13 hat13
      rw [List.nil_append] at ho13
      obtain ⟨A13, c13, h1e⟩ := ho13.form
      rw [HWg.out] at h1e
      subst h1e
      have k7 : ∀ z, (Value.slice X7 nx x7).ownBlock = some z → ¬ (Value.slice A13 ng c13).ownBlock = some z := fun z hz e => (hat13 z e).elim (fun h1 => n7 z hz (Option.some.inj h1).symm) (fun h1 => by have := (r7.lt z hz).2; omega)
      replace r7 := r7.chg hc13 (fun z hz e => n7 z hz (Option.some.inj e).symm)
      have r13 := ho13
      replace hW := hW.trans hb13
      replace s9 := Nat.le_trans s9 hb13.size
      replace bX := bX.below hb13 lbX
      replace bG := bG.below hb13 lbG
      replace bH := bH.below hb13 lbH
      clear r9 r11 hat13 hc13 ho13 hb13
      refine hK.out _ _ (⟨bX.c0, bX.c1, bX.c2, bG.c0, bG.c1, bG.c2, bH.c0, bH.c1, bH.c2⟩) (fun hHeld => ?_)
      clear hK K
      try simp only [Act.put, List.setIfInBounds_toArray, List.set_cons_zero, List.set_cons_succ]
      refine callH15 (by kernel_rfl) (fun K hK => ?_)
      go_simp
      go_at_call 37
      refine (solvedN _ _ _ h nh _ _ (Nat.le_refl _) (oh.reads.keep (keeps_below hW)) HPh.out HNh.out).mono ?_; rintro e w15 ⟨X15, Y15, x15, y15, rfl, r15, hb15⟩
      have n15 : ∀ z, (Value.slice X15 nh x15).ownBlock = some z → z ≠ w7.heap.size := fun z hz e => by have := (r15.lt z hz).1; omega
      replace r15 := r15.more hW.size
      replace hW := below_then hb15 hW.size hW
      replace bX := bX.on hb15
      replace bG := bG.on hb15
      replace bH := bH.on hb15
      replace r7 := r7.below hb15
      replace r13 := r13.below hb15
      replace s9 := Nat.le_trans s9 hb15.size
      go_wp2_with fail
      refine hK.out _ _ (⟨bX.c0, bX.c1, bX.c2, bG.c0, bG.c1, bG.c2, bH.c0, bH.c1, bH.c2⟩) (fun hHeld => ?_)
      clear hK K
      try simp only [Act.put, List.setIfInBounds_toArray, List.set_cons_zero, List.set_cons_succ]
      refine takeH16 (v := ?_) (by kernel_rfl) (by kernel_rfl) (by kernel_rfl) (fun _ _ _ h => h) hHeld (by rfl) ?_ ?_
      rotate_left; · (intro w hSw; (try dsimp only at hSw); go_simp; try with_reducible rfl)
      try simp only [Act.put, List.setIfInBounds_toArray, List.set_cons_zero, List.set_cons_succ]
      refine callH17 (by kernel_rfl) (fun K hK => ?_)
      refine step_of_want (by rfl) (wp_appI (.tmp 35) (.tmp 38) (by rfl) w15 wD.heap.size (.slice A13 ng c13) (wonL g) (by rfl) r13 X15 nh x15 (wonL h) (by rfl) r15.reads hngl hnhs hW.size ?_)
      intro v17 w17 ho17 hb17 hc17 hat17
      obtain ⟨A17, c17, h1e⟩ := ho17.form
      rw [HWL.out] at h1e
      subst h1e
      replace r7 := r7.chg hc17 (fun z hz e => k7 z hz e)
      replace hW := hW.trans hb17
      replace bX := bX.below hb17 lbX
      replace bG := bG.below hb17 lbG
      replace bH := bH.below hb17 lbH
      clear hat17 hc17 hb17
      refine hK.out _ _ (⟨bX.c0, bX.c1, bX.c2, bG.c0, bG.c1, bG.c2, bH.c0, bH.c1, bH.c2⟩) (fun hHeld => ?_)
      clear hK K
      try simp only [Act.put, List.setIfInBounds_toArray, List.set_cons_zero, List.set_cons_succ]
      refine callH18 (by kernel_rfl) (fun K hK => ?_)
      go_simp
      go_at_call 36
      refine (likeInts _ _ _ _ _ _ _ _ _ r7.reads ho17.reads).mono ?_; rintro e w18 ⟨rfl, q18⟩
      rw [HEQ.out]
      have hb18 := below_qt q18 (Below.refl w17.heap.size w17)
      replace hW := below_then hb18 hW.size hW
      replace bX := bX.on hb18
      replace bG := bG.on hb18
      replace bH := bH.on hb18
      go_wp2_with fail
      refine hK.out _ _ (⟨bX.c0, bX.c1, bX.c2, bG.c0, bG.c1, bG.c2, bH.c0, bH.c1, bH.c2⟩) (fun hHeld => ?_)
      clear hK K
      try simp only [Act.put, List.setIfInBounds_toArray, List.set_cons_zero, List.set_cons_succ]
      refine takeH19 (v := ?_) (by kernel_rfl) (by kernel_rfl) (by kernel_rfl) (fun _ _ _ h => h) hHeld (by rfl) ?_ ?_
      rotate_left; · (intro w hSw; (try dsimp only at hSw); go_simp; try with_reducible rfl)
      try simp only [Act.put, List.setIfInBounds_toArray, List.set_cons_zero, List.set_cons_succ]
      refine takeH20 (v := ?_) (by kernel_rfl) (by kernel_rfl) (by kernel_rfl) (fun _ _ _ h => h) hHeld (by rfl) ?_ ?_
      rotate_left; · (intro w hSw; (try dsimp only at hSw); go_simp; try with_reducible rfl)
      try simp only [Act.put, List.setIfInBounds_toArray, List.set_cons_zero, List.set_cons_succ]
      refine wpAnyH_done (by kernel_rfl) ?_ _
      go_wp2
      go_ret
      exact ⟨rfl, below_then hW hwD.size hwD⟩
    · go_simp
      go_at_call 37
      refine (solvedN _ _ _ g ng _ _ (Nat.le_refl _) (og.reads.keep (keeps_below hW)) HPg.out HNg.out).mono ?_; rintro e w11 ⟨X11, Y11, x11, y11, rfl, r11, hb11⟩
      replace r11 := r11.more hW.size
      replace hW := below_then hb11 hW.size hW
      replace bX := bX.on hb11
      replace bG := bG.on hb11
      replace bH := bH.on hb11
      replace r7 := r7.below hb11
      go_wp2_with fail
      refine hK.out _ _ (⟨bX.c0, bX.c1, bX.c2, bG.c0, bG.c1, bG.c2, bH.c0, bH.c1, bH.c2⟩) (fun hHeld => ?_)
      clear hK K
      try simp only [Act.put, List.setIfInBounds_toArray, List.set_cons_zero, List.set_cons_succ]
      refine takeH12 (v := ?_) (by kernel_rfl) (by kernel_rfl) (by kernel_rfl) (fun _ _ _ h => h) hHeld (by rfl) ?_ ?_
      rotate_left; · (intro w hSw; (try dsimp only at hSw); go_simp; try with_reducible rfl)
      try simp only [Act.put, List.setIfInBounds_toArray, List.set_cons_zero, List.set_cons_succ]
      refine callH9 (by kernel_rfl) (fun K hK => ?_)
      have bXA := bX.alloc (.cells #[] 2)
      have bGA := bG.alloc (.cells #[] 2)
      have bHA := bH.alloc (.cells #[] 2)
      go_simp
      refine hK.out _ _ (⟨bXA.c0, bXA.c1, bXA.c2, bGA.c0, bGA.c1, bGA.c2, bHA.c0, bHA.c1, bHA.c2⟩) (fun hHeld => ?_)
      clear hK K
      try simp only [Act.put, List.setIfInBounds_toArray, List.set_cons_zero, List.set_cons_succ]
      have hbA : Below w11.heap.size w11 (w11.alloc (.cells #[] 2)) := below_alloc (Nat.le_refl _) (Below.refl _ _)
      have n7 : ∀ z, (Value.slice X7 nx x7).ownBlock = some z → z ≠ w11.heap.size := fun z hz e => by have := (r7.lt z hz).2; omega
      have n11 : ∀ z, (Value.slice X11 ng x11).ownBlock = some z → z ≠ w11.heap.size := fun z hz e => by have := (r11.lt z hz).2; omega
      have r9 : OI 2 (w11.alloc (.cells #[] 2)) wD.heap.size (.slice (some ⟨w11.heap.size, 0, none⟩) 0 0) [] := OI.empty (E := 2) (w := w11) hW.size
      have s9 : w11.heap.size + 1 ≤ (w11.alloc (.cells #[] 2)).heap.size := by simp
      replace hW := below_then hbA hW.size hW
      replace bX := bX.on hbA
      replace bG := bG.on hbA
      replace bH := bH.on hbA
      replace r7 := r7.below hbA
      replace r11 := r11.below hbA
      clear bXA bGA bHA
      generalize (w11.alloc (.cells #[] 2)) = wA at *
      refine callH13 (by kernel_rfl) (fun K hK => ?_)
      refine step_of_want (by rfl) (wp_appI (.tmp 31) (.tmp 34) (by rfl) wA wD.heap.size (.slice (some ⟨w11.heap.size, 0, none⟩) 0 0) [] (by rfl) r9 X11 ng x11 (wonL g) (by rfl) r11.reads (by simp) hngs hW.size ?_)
      intro v13 w13 ho13 hb13 hc13 hat13
      rw [List.nil_append] at ho13
      obtain ⟨A13, c13, h1e⟩ := ho13.form
      rw [HWg.out] at h1e
      subst h1e
      have k7 : ∀ z, (Value.slice X7 nx x7).ownBlock = some z → ¬ (Value.slice A13 ng c13).ownBlock = some z := fun z hz e => (hat13 z e).elim (fun h1 => n7 z hz (Option.some.inj h1).symm) (fun h1 => by have := (r7.lt z hz).2; omega)
      replace r7 := r7.chg hc13 (fun z hz e => n7 z hz (Option.some.inj e).symm)
      have r13 := ho13
      replace hW := hW.trans hb13
      replace s9 := Nat.le_trans s9 hb13.size
      replace bX := bX.below hb13 lbX
      replace bG := bG.below hb13 lbG
      replace bH := bH.below hb13 lbH
      clear r9 r11 hat13 hc13 ho13 hb13
      refine hK.out _ _ (⟨bX.c0, bX.c1, bX.c2, bG.c0, bG.c1, bG.c2, bH.c0, bH.c1, bH.c2⟩) (fun hHeld => ?_)
      clear hK K
      try simp only [Act.put, List.setIfInBounds_toArray, List.set_cons_zero, List.set_cons_succ]
      refine callH15 (by kernel_rfl) (fun K hK => ?_)
      go_simp
      go_at_call 37
      refine (solvedN _ _ _ h nh _ _ (Nat.le_refl _) (oh.reads.keep (keeps_below hW)) HPh.out HNh.out).mono ?_; rintro e w15 ⟨X15, Y15, x15, y15, rfl, r15, hb15⟩
      have n15 : ∀ z, (Value.slice X15 nh x15).ownBlock = some z → z ≠ w11.heap.size := fun z hz e => by have := (r15.lt z hz).1; omega
      replace r15 := r15.more hW.size
      replace hW := below_then hb15 hW.size hW
      replace bX := bX.on hb15
      replace bG := bG.on hb15
      replace bH := bH.on hb15
      replace r7 := r7.below hb15
      replace r13 := r13.below hb15
      replace s9 := Nat.le_trans s9 hb15.size
      go_wp2_with fail
      refine hK.out _ _ (⟨bX.c0, bX.c1, bX.c2, bG.c0, bG.c1, bG.c2, bH.c0, bH.c1, bH.c2⟩) (fun hHeld => ?_)
      clear hK K
      try simp only [Act.put, List.setIfInBounds_toArray, List.set_cons_zero, List.set_cons_succ]
      refine takeH16 (v := ?_) (by kernel_rfl) (by kernel_rfl) (by kernel_rfl) (fun _ _ _ h => h) hHeld (by rfl) ?_ ?_
      rotate_left; · (intro w hSw; (try dsimp only at hSw); go_simp; try with_reducible rfl)
      try simp only [Act.put, List.setIfInBounds_toArray, List.set_cons_zero, List.set_cons_succ]
      refine callH17 (by kernel_rfl) (fun K hK => ?_)
      refine step_of_want (by rfl) (wp_appI (.tmp 35) (.tmp 38) (by rfl) w15 wD.heap.size (.slice A13 ng c13) (wonL g) (by rfl) r13 X15 nh x15 (wonL h) (by rfl) r15.reads hngl hnhs hW.size ?_)
      intro v17 w17 ho17 hb17 hc17 hat17
      obtain ⟨A17, c17, h1e⟩ := ho17.form
      rw [HWL.out] at h1e
      subst h1e
      replace r7 := r7.chg hc17 (fun z hz e => k7 z hz e)
      replace hW := hW.trans hb17
      replace bX := bX.below hb17 lbX
      replace bG := bG.below hb17 lbG
      replace bH := bH.below hb17 lbH
      clear hat17 hc17 hb17
      refine hK.out _ _ (⟨bX.c0, bX.c1, bX.c2, bG.c0, bG.c1, bG.c2, bH.c0, bH.c1, bH.c2⟩) (fun hHeld => ?_)
      clear hK K
      try simp only [Act.put, List.setIfInBounds_toArray, List.set_cons_zero, List.set_cons_succ]
      refine callH18 (by kernel_rfl) (fun K hK => ?_)
      go_simp
      go_at_call 36
      refine (likeInts _ _ _ _ _ _ _ _ _ r7.reads ho17.reads).mono ?_; rintro e w18 ⟨rfl, q18⟩
      rw [HEQ.out]
      have hb18 := below_qt q18 (Below.refl w17.heap.size w17)
      replace hW := below_then hb18 hW.size hW
      replace bX := bX.on hb18
      replace bG := bG.on hb18
      replace bH := bH.on hb18
      go_wp2_with fail
      refine hK.out _ _ (⟨bX.c0, bX.c1, bX.c2, bG.c0, bG.c1, bG.c2, bH.c0, bH.c1, bH.c2⟩) (fun hHeld => ?_)
      clear hK K
      try simp only [Act.put, List.setIfInBounds_toArray, List.set_cons_zero, List.set_cons_succ]
      refine takeH19 (v := ?_) (by kernel_rfl) (by kernel_rfl) (by kernel_rfl) (fun _ _ _ h => h) hHeld (by rfl) ?_ ?_
      rotate_left; · (intro w hSw; (try dsimp only at hSw); go_simp; try with_reducible rfl)
      try simp only [Act.put, List.setIfInBounds_toArray, List.set_cons_zero, List.set_cons_succ]
      refine takeH20 (v := ?_) (by kernel_rfl) (by kernel_rfl) (by kernel_rfl) (fun _ _ _ h => h) hHeld (by rfl) ?_ ?_
      rotate_left; · (intro w hSw; (try dsimp only at hSw); go_simp; try with_reducible rfl)
      try simp only [Act.put, List.setIfInBounds_toArray, List.set_cons_zero, List.set_cons_succ]
      refine wpAnyH_done (by kernel_rfl) ?_ _
      go_wp2
      go_ret
      exact ⟨rfl, below_then hW hwD.size hwD⟩
  · have bXA := bX.alloc (.cells #[] 2)
    have bGA := bG.alloc (.cells #[] 2)
    have bHA := bH.alloc (.cells #[] 2)
    go_simp
    refine hK.out _ _ (⟨bXA.c0, bXA.c1, bXA.c2, bGA.c0, bGA.c1, bGA.c2, bHA.c0, bHA.c1, bHA.c2⟩) (fun hHeld => ?_)
    clear hK K
    try simp only [Act.put, List.setIfInBounds_toArray, List.set_cons_zero, List.set_cons_succ]
    have hbA : Below wP.heap.size wP (wP.alloc (.cells #[] 2)) := below_alloc (Nat.le_refl _) (Below.refl _ _)
    have r9 : OI 2 (wP.alloc (.cells #[] 2)) wD.heap.size (.slice (some ⟨wP.heap.size, 0, none⟩) 0 0) [] := OI.empty (E := 2) (w := wP) hW.size
    have s9 : wP.heap.size + 1 ≤ (wP.alloc (.cells #[] 2)).heap.size := by simp
    replace hW := below_then hbA hW.size hW
    replace bX := bX.on hbA
    replace bG := bG.on hbA
    replace bH := bH.on hbA
    clear bXA bGA bHA
    generalize (wP.alloc (.cells #[] 2)) = wA at *
    refine callH7 (by kernel_rfl) (fun K hK => ?_)
    go_simp
    go_at_call 37
    refine (solvedN _ _ _ x nx _ _ (Nat.le_refl _) (ox.reads.keep (keeps_below hW)) HPx.out HNx.out).mono ?_; rintro e w7 ⟨X7, Y7, x7, y7, rfl, r7, hb7⟩
    have n7 : ∀ z, (Value.slice X7 nx x7).ownBlock = some z → z ≠ wP.heap.size := fun z hz e => by have := (r7.lt z hz).1; omega
    replace r7 := r7.more hW.size
    replace hW := below_then hb7 hW.size hW
    replace bX := bX.on hb7
    replace bG := bG.on hb7
    replace bH := bH.on hb7
    replace r9 := r9.below hb7
    replace s9 := Nat.le_trans s9 hb7.size
    go_wp2_with fail
    refine hK.out _ _ (⟨bX.c0, bX.c1, bX.c2, bG.c0, bG.c1, bG.c2, bH.c0, bH.c1, bH.c2⟩) (fun hHeld => ?_)
    clear hK K
    try simp only [Act.put, List.setIfInBounds_toArray, List.set_cons_zero, List.set_cons_succ]
    refine takeH8 (v := ?_) (by kernel_rfl) (by kernel_rfl) (by kernel_rfl) (fun _ _ _ h => h) hHeld (by rfl) ?_ ?_
    rotate_left; · (intro w hSw; (try dsimp only at hSw); go_simp; try with_reducible rfl)
    try simp only [Act.put, List.setIfInBounds_toArray, List.set_cons_zero, List.set_cons_succ]
    refine callH11 (by kernel_rfl) (fun K hK => ?_)
    go_simp
    go_at_call 37
    refine (solvedN _ _ _ g ng _ _ (Nat.le_refl _) (og.reads.keep (keeps_below hW)) HPg.out HNg.out).mono ?_; rintro e w11 ⟨X11, Y11, x11, y11, rfl, r11, hb11⟩
    have n11 : ∀ z, (Value.slice X11 ng x11).ownBlock = some z → z ≠ wP.heap.size := fun z hz e => by have := (r11.lt z hz).1; omega
    replace r11 := r11.more hW.size
    replace hW := below_then hb11 hW.size hW
    replace bX := bX.on hb11
    replace bG := bG.on hb11
    replace bH := bH.on hb11
    replace r7 := r7.below hb11
    replace r9 := r9.below hb11
    replace s9 := Nat.le_trans s9 hb11.size
    go_wp2_with fail
    refine hK.out _ _ (⟨bX.c0, bX.c1, bX.c2, bG.c0, bG.c1, bG.c2, bH.c0, bH.c1, bH.c2⟩) (fun hHeld => ?_)
    clear hK K
    try simp only [Act.put, List.setIfInBounds_toArray, List.set_cons_zero, List.set_cons_succ]
    refine takeH12 (v := ?_) (by kernel_rfl) (by kernel_rfl) (by kernel_rfl) (fun _ _ _ h => h) hHeld (by rfl) ?_ ?_
    rotate_left; · (intro w hSw; (try dsimp only at hSw); go_simp; try with_reducible rfl)
    try simp only [Act.put, List.setIfInBounds_toArray, List.set_cons_zero, List.set_cons_succ]
    refine callH13 (by kernel_rfl) (fun K hK => ?_)
    refine step_of_want (by rfl) (wp_appI (.tmp 31) (.tmp 34) (by rfl) w11 wD.heap.size (.slice (some ⟨wP.heap.size, 0, none⟩) 0 0) [] (by rfl) r9 X11 ng x11 (wonL g) (by rfl) r11.reads (by simp) hngs hW.size ?_)
    intro v13 w13 ho13 hb13 hc13 hat13
    rw [List.nil_append] at ho13
    obtain ⟨A13, c13, h1e⟩ := ho13.form
    rw [HWg.out] at h1e
    subst h1e
    have k7 : ∀ z, (Value.slice X7 nx x7).ownBlock = some z → ¬ (Value.slice A13 ng c13).ownBlock = some z := fun z hz e => (hat13 z e).elim (fun h1 => n7 z hz (Option.some.inj h1).symm) (fun h1 => by have := (r7.lt z hz).2; omega)
    replace r7 := r7.chg hc13 (fun z hz e => n7 z hz (Option.some.inj e).symm)
    have r13 := ho13
    replace hW := hW.trans hb13
    replace s9 := Nat.le_trans s9 hb13.size
    replace bX := bX.below hb13 lbX
    replace bG := bG.below hb13 lbG
    replace bH := bH.below hb13 lbH
    clear r9 r11 hat13 hc13 ho13 hb13
    refine hK.out _ _ (⟨bX.c0, bX.c1, bX.c2, bG.c0, bG.c1, bG.c2, bH.c0, bH.c1, bH.c2⟩) (fun hHeld => ?_)
    clear hK K
    try simp only [Act.put, List.setIfInBounds_toArray, List.set_cons_zero, List.set_cons_succ]
    refine callH15 (by kernel_rfl) (fun K hK => ?_)
    go_simp
    go_at_call 37
    refine (solvedN _ _ _ h nh _ _ (Nat.le_refl _) (oh.reads.keep (keeps_below hW)) HPh.out HNh.out).mono ?_; rintro e w15 ⟨X15, Y15, x15, y15, rfl, r15, hb15⟩
    have n15 : ∀ z, (Value.slice X15 nh x15).ownBlock = some z → z ≠ wP.heap.size := fun z hz e => by have := (r15.lt z hz).1; omega
    replace r15 := r15.more hW.size
    replace hW := below_then hb15 hW.size hW
    replace bX := bX.on hb15
    replace bG := bG.on hb15
    replace bH := bH.on hb15
    replace r7 := r7.below hb15
    replace r13 := r13.below hb15
    replace s9 := Nat.le_trans s9 hb15.size
    go_wp2_with fail
    refine hK.out _ _ (⟨bX.c0, bX.c1, bX.c2, bG.c0, bG.c1, bG.c2, bH.c0, bH.c1, bH.c2⟩) (fun hHeld => ?_)
    clear hK K
    try simp only [Act.put, List.setIfInBounds_toArray, List.set_cons_zero, List.set_cons_succ]
    refine takeH16 (v := ?_) (by kernel_rfl) (by kernel_rfl) (by kernel_rfl) (fun _ _ _ h => h) hHeld (by rfl) ?_ ?_
    rotate_left; · (intro w hSw; (try dsimp only at hSw); go_simp; try with_reducible rfl)
    try simp only [Act.put, List.setIfInBounds_toArray, List.set_cons_zero, List.set_cons_succ]
    refine callH17 (by kernel_rfl) (fun K hK => ?_)
    refine step_of_want (by rfl) (wp_appI (.tmp 35) (.tmp 38) (by rfl) w15 wD.heap.size (.slice A13 ng c13) (wonL g) (by rfl) r13 X15 nh x15 (wonL h) (by rfl) r15.reads hngl hnhs hW.size ?_)
    intro v17 w17 ho17 hb17 hc17 hat17
    obtain ⟨A17, c17, h1e⟩ := ho17.form
    rw [HWL.out] at h1e
    subst h1e
    replace r7 := r7.chg hc17 (fun z hz e => k7 z hz e)
    replace hW := hW.trans hb17
    replace bX := bX.below hb17 lbX
    replace bG := bG.below hb17 lbG
    replace bH := bH.below hb17 lbH
    clear hat17 hc17 hb17
    refine hK.out _ _ (⟨bX.c0, bX.c1, bX.c2, bG.c0, bG.c1, bG.c2, bH.c0, bH.c1, bH.c2⟩) (fun hHeld => ?_)
    clear hK K
    try simp only [Act.put, List.setIfInBounds_toArray, List.set_cons_zero, List.set_cons_succ]
    refine callH18 (by kernel_rfl) (fun K hK => ?_)
    go_simp
    go_at_call 36
    refine (likeInts _ _ _ _ _ _ _ _ _ r7.reads ho17.reads).mono ?_; rintro e w18 ⟨rfl, q18⟩
    rw [HEQ.out]
    have hb18 := below_qt q18 (Below.refl w17.heap.size w17)
    replace hW := below_then hb18 hW.size hW
    replace bX := bX.on hb18
    replace bG := bG.on hb18
    replace bH := bH.on hb18
    go_wp2_with fail
    refine hK.out _ _ (⟨bX.c0, bX.c1, bX.c2, bG.c0, bG.c1, bG.c2, bH.c0, bH.c1, bH.c2⟩) (fun hHeld => ?_)
    clear hK K
    try simp only [Act.put, List.setIfInBounds_toArray, List.set_cons_zero, List.set_cons_succ]
    refine takeH19 (v := ?_) (by kernel_rfl) (by kernel_rfl) (by kernel_rfl) (fun _ _ _ h => h) hHeld (by rfl) ?_ ?_
    rotate_left; · (intro w hSw; (try dsimp only at hSw); go_simp; try with_reducible rfl)
    try simp only [Act.put, List.setIfInBounds_toArray, List.set_cons_zero, List.set_cons_succ]
    refine takeH20 (v := ?_) (by kernel_rfl) (by kernel_rfl) (by kernel_rfl) (fun _ _ _ h => h) hHeld (by rfl) ?_ ?_
    rotate_left; · (intro w hSw; (try dsimp only at hSw); go_simp; try with_reducible rfl)
    try simp only [Act.put, List.setIfInBounds_toArray, List.set_cons_zero, List.set_cons_succ]
    refine wpAnyH_done (by kernel_rfl) ?_ _
    go_wp2
    go_ret
    exact ⟨rfl, below_then hW hwD.size hwD⟩
theorem own : ownKnob Try.prog.godebug = none := by kernel_rfl
theorem laidOut : laidOutB Try.prog = true := by kernel_rfl
set_option maxRecDepth 100000 in
theorem lifted (os : Os) (started : os.Started) (H : Type) (enc : TypeId × Value → H) :
    ReturnsInHanded {} Try.checked os 5 .any (Rows.fnJoinedGamesSpec.pre6 enc Try.prog Try.f5 Rows.fnJoinedGamesRow.domain false) (Rows.fnJoinedGamesSpec.post enc Try.prog Try.f5 false true false false) := by
  refine returnsInHanded_of_change (C := Try.checked) own started (by kernel_rfl) Try.func5
    (ChangeSpec.witness6 (enc := enc) (C := Try.checked) false ⟨#[], #[.slice none 0 0], []⟩ 8 (by kernel_rfl) (by kernel_rfl) (by kernel_rfl) (by kernel_rfl)) ?_
  intro W base args ds gs before hval0 hW hcnd _
  have hval : ∀ (j : Nat) t v, Try.f5.params[j]? = some t → args[j]? = some v → Value.okWide Try.prog W .any base t v := hval0
  have hW' := hW
  obtain ⟨p, q, hA0, hV, rfl, hfz, hnd⟩ := hW
  have hA : DataW.TrodAll enc Try.prog W 0 (fun _ => true) true Try.f5.params.toList args.toList ds p := hA0
  rw [Try.params5] at hA hval
  obtain ⟨v0, vs0, d0, ds0, p0, q0, hargs, rfl, rfl, h0, r0⟩ := trodAll_cons hA
  obtain ⟨rfl, rfl, rfl⟩ := trodAll_nil r0
  obtain rfl : args = #[v0] := by cases args; simp_all
  obtain ⟨rfl, rfl⟩ := trodVars_none hV
  have k0 := h0
  have lt0 : ∀ x ∈ p0, x.block < W.heap.size := by obtain ⟨m, hm⟩ := k0; exact DataW.trod_lt m _ _ _ hm
  obtain ⟨fuel0, hf0⟩ := h0
  obtain ⟨A0, n0, c0, rfl⟩ := okWide_slice Try.underlying22 (hval 0 22 v0 rfl rfl)
  obtain ⟨B0, m0, d0, ps0, e0, rr0⟩ := ry_of_trod (c := .slice A0 n0 c0) Try.underlying22 Try.underlying5 (by kernel_rfl) (by intro; rfl) hf0
  injection e0 with ea0 eb0 ec0
  subst ea0; subst eb0; subst ec0
  clear hA0 hval0
  refine (walk _ _ _ _ W rr0).mono fun e W' ⟨he, bel⟩ => ?_
  subst he
  exact ⟨_, rfl, _, _, _, [], _, [], hW', trodAll_mk1 (shut_bool Try.underlying4 _), (trodAll_cons_mk (Below.trod laidOut (by kernel_rfl) (of_decide_eq_true (by kernel_rfl)) k0 bel lt0) trodAll_mk0), rfl, bel.frame _, fun h => by cases h⟩
theorem over : Rows.fnJoinedGamesRow.holds Try.pinned (OpenSpec.ofChange Rows.fnJoinedGamesSpec) :=
  OpenClaim.holds_of_wide 5 Try.f5 rfl rfl rfl rfl rfl rfl rfl ⟨rfl, rfl, rfl, rfl, rfl⟩ rfl rfl rfl rfl rfl (by kernel_rfl) Try.func5 (by kernel_rfl)
    (of_decide_eq_true (by kernel_rfl)) (by unfold Func.isWrapper; first | (rw [if_pos (by decide +kernel)]; kernel_rfl) | (rw [if_neg (by decide +kernel)]; exact ⟨rfl, rfl⟩))
    (fun os started H enc _ => lifted os started H enc)
/-- the statement -/
theorem proved : Rows.FnJoinedGamesSaid := over
end Go.Proofs.Ytlmhhnplacejkaa.fnJoinedGames


