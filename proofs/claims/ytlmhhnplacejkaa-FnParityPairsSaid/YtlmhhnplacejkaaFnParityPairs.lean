/- FnParityPairs: for every input the law returns true, and the argument reads as it read before. No condition. -/
import Derived.Test.YtlmhhnplacejkaaPlay3
import Derived.Test.YtlmhhnplacejkaaOpenY
import Derived.Test.YtlmhhnplacejkaaDiceS
import Derived.Test.YtlmhhnplacejkaaArn
import Derived.Test.YtlmhhnplacejkaaPlayWon
import Derived.Test.YtlmhhnplacejkaaPPair1
import Derived.Test.YtlmhhnplacejkaaLassoW3
import Derived.Test.YtlmhhnplacejkaaHand
import Derived.Test.YtlmhhnplacejkaaCut
import Derived.Deep.DeepCutAuto
namespace Go.Proofs.Ytlmhhnplacejkaa.fnParityPairs
open Go.ChangeShapes Go.WideShapes Go.ChangeAt Go.RowKit

theorem twoH_1_3 {P : Program} {Q : Exit → Act → World → Prop} {md : Region.Mode} {S : World → Prop} {fuel : Nat} {listed : Array Bool} {a : Act} {w : World} {o0 o1 o2 o3 : Oper} {r : List Oper} (hr : Region.ready md (List.toArray (o0 :: o1 :: o2 :: o3 :: r)) listed = [1, 3])
    (h1 : ∀ K' : Act → World → Prop, Shut (∀ a w, S w → (S w → wpAnyH P md (List.toArray (o0 :: o1 :: o2 :: o3 :: r)) Q S fuel (listed.setIfInBounds 1 true) a w) → K' a w) → if Region.wanted o1 (yielded (List.toArray (o0 :: o1 :: o2 :: o3 :: r)) a.tmps) = true then Oper.wp P o1 a w K' Q else K' (a.put o1.dst undef) w) (h2 : ∀ K' : Act → World → Prop, Shut (∀ a w, S w → (S w → wpAnyH P md (List.toArray (o0 :: o1 :: o2 :: o3 :: r)) Q S fuel (listed.setIfInBounds 3 true) a w) → K' a w) → if Region.wanted o3 (yielded (List.toArray (o0 :: o1 :: o2 :: o3 :: r)) a.tmps) = true then Oper.wp P o3 a w K' Q else K' (a.put o3.dst undef) w) : wpAnyH P md (List.toArray (o0 :: o1 :: o2 :: o3 :: r)) Q S (fuel + 1) listed a w :=
  wpAnyH_ready (rs := [1, 3]) hr (by simp) (AllReadyH.cons rfl h1 (AllReadyH.cons rfl h2 AllReadyH.nil))
theorem twoH_1_4 {P : Program} {Q : Exit → Act → World → Prop} {md : Region.Mode} {S : World → Prop} {fuel : Nat} {listed : Array Bool} {a : Act} {w : World} {o0 o1 o2 o3 o4 : Oper} {r : List Oper} (hr : Region.ready md (List.toArray (o0 :: o1 :: o2 :: o3 :: o4 :: r)) listed = [1, 4])
    (h1 : ∀ K' : Act → World → Prop, Shut (∀ a w, S w → (S w → wpAnyH P md (List.toArray (o0 :: o1 :: o2 :: o3 :: o4 :: r)) Q S fuel (listed.setIfInBounds 1 true) a w) → K' a w) → if Region.wanted o1 (yielded (List.toArray (o0 :: o1 :: o2 :: o3 :: o4 :: r)) a.tmps) = true then Oper.wp P o1 a w K' Q else K' (a.put o1.dst undef) w) (h2 : ∀ K' : Act → World → Prop, Shut (∀ a w, S w → (S w → wpAnyH P md (List.toArray (o0 :: o1 :: o2 :: o3 :: o4 :: r)) Q S fuel (listed.setIfInBounds 4 true) a w) → K' a w) → if Region.wanted o4 (yielded (List.toArray (o0 :: o1 :: o2 :: o3 :: o4 :: r)) a.tmps) = true then Oper.wp P o4 a w K' Q else K' (a.put o4.dst undef) w) : wpAnyH P md (List.toArray (o0 :: o1 :: o2 :: o3 :: o4 :: r)) Q S (fuel + 1) listed a w :=
  wpAnyH_ready (rs := [1, 4]) hr (by simp) (AllReadyH.cons rfl h1 (AllReadyH.cons rfl h2 AllReadyH.nil))
theorem twoH_3_16 {P : Program} {Q : Exit → Act → World → Prop} {md : Region.Mode} {S : World → Prop} {fuel : Nat} {listed : Array Bool} {a : Act} {w : World} {o0 o1 o2 o3 o4 o5 o6 o7 o8 o9 o10 o11 o12 o13 o14 o15 o16 : Oper} {r : List Oper} (hr : Region.ready md (List.toArray (o0 :: o1 :: o2 :: o3 :: o4 :: o5 :: o6 :: o7 :: o8 :: o9 :: o10 :: o11 :: o12 :: o13 :: o14 :: o15 :: o16 :: r)) listed = [3, 16])
    (h1 : ∀ K' : Act → World → Prop, Shut (∀ a w, S w → (S w → wpAnyH P md (List.toArray (o0 :: o1 :: o2 :: o3 :: o4 :: o5 :: o6 :: o7 :: o8 :: o9 :: o10 :: o11 :: o12 :: o13 :: o14 :: o15 :: o16 :: r)) Q S fuel (listed.setIfInBounds 3 true) a w) → K' a w) → if Region.wanted o3 (yielded (List.toArray (o0 :: o1 :: o2 :: o3 :: o4 :: o5 :: o6 :: o7 :: o8 :: o9 :: o10 :: o11 :: o12 :: o13 :: o14 :: o15 :: o16 :: r)) a.tmps) = true then Oper.wp P o3 a w K' Q else K' (a.put o3.dst undef) w) (h2 : ∀ K' : Act → World → Prop, Shut (∀ a w, S w → (S w → wpAnyH P md (List.toArray (o0 :: o1 :: o2 :: o3 :: o4 :: o5 :: o6 :: o7 :: o8 :: o9 :: o10 :: o11 :: o12 :: o13 :: o14 :: o15 :: o16 :: r)) Q S fuel (listed.setIfInBounds 16 true) a w) → K' a w) → if Region.wanted o16 (yielded (List.toArray (o0 :: o1 :: o2 :: o3 :: o4 :: o5 :: o6 :: o7 :: o8 :: o9 :: o10 :: o11 :: o12 :: o13 :: o14 :: o15 :: o16 :: r)) a.tmps) = true then Oper.wp P o16 a w K' Q else K' (a.put o16.dst undef) w) : wpAnyH P md (List.toArray (o0 :: o1 :: o2 :: o3 :: o4 :: o5 :: o6 :: o7 :: o8 :: o9 :: o10 :: o11 :: o12 :: o13 :: o14 :: o15 :: o16 :: r)) Q S (fuel + 1) listed a w :=
  wpAnyH_ready (rs := [3, 16]) hr (by simp) (AllReadyH.cons rfl h1 (AllReadyH.cons rfl h2 AllReadyH.nil))
theorem twoH_6_16 {P : Program} {Q : Exit → Act → World → Prop} {md : Region.Mode} {S : World → Prop} {fuel : Nat} {listed : Array Bool} {a : Act} {w : World} {o0 o1 o2 o3 o4 o5 o6 o7 o8 o9 o10 o11 o12 o13 o14 o15 o16 : Oper} {r : List Oper} (hr : Region.ready md (List.toArray (o0 :: o1 :: o2 :: o3 :: o4 :: o5 :: o6 :: o7 :: o8 :: o9 :: o10 :: o11 :: o12 :: o13 :: o14 :: o15 :: o16 :: r)) listed = [6, 16])
    (h1 : ∀ K' : Act → World → Prop, Shut (∀ a w, S w → (S w → wpAnyH P md (List.toArray (o0 :: o1 :: o2 :: o3 :: o4 :: o5 :: o6 :: o7 :: o8 :: o9 :: o10 :: o11 :: o12 :: o13 :: o14 :: o15 :: o16 :: r)) Q S fuel (listed.setIfInBounds 6 true) a w) → K' a w) → if Region.wanted o6 (yielded (List.toArray (o0 :: o1 :: o2 :: o3 :: o4 :: o5 :: o6 :: o7 :: o8 :: o9 :: o10 :: o11 :: o12 :: o13 :: o14 :: o15 :: o16 :: r)) a.tmps) = true then Oper.wp P o6 a w K' Q else K' (a.put o6.dst undef) w) (h2 : ∀ K' : Act → World → Prop, Shut (∀ a w, S w → (S w → wpAnyH P md (List.toArray (o0 :: o1 :: o2 :: o3 :: o4 :: o5 :: o6 :: o7 :: o8 :: o9 :: o10 :: o11 :: o12 :: o13 :: o14 :: o15 :: o16 :: r)) Q S fuel (listed.setIfInBounds 16 true) a w) → K' a w) → if Region.wanted o16 (yielded (List.toArray (o0 :: o1 :: o2 :: o3 :: o4 :: o5 :: o6 :: o7 :: o8 :: o9 :: o10 :: o11 :: o12 :: o13 :: o14 :: o15 :: o16 :: r)) a.tmps) = true then Oper.wp P o16 a w K' Q else K' (a.put o16.dst undef) w) : wpAnyH P md (List.toArray (o0 :: o1 :: o2 :: o3 :: o4 :: o5 :: o6 :: o7 :: o8 :: o9 :: o10 :: o11 :: o12 :: o13 :: o14 :: o15 :: o16 :: r)) Q S (fuel + 1) listed a w :=
  wpAnyH_ready (rs := [6, 16]) hr (by simp) (AllReadyH.cons rfl h1 (AllReadyH.cons rfl h2 AllReadyH.nil))
theorem twoH_11_16 {P : Program} {Q : Exit → Act → World → Prop} {md : Region.Mode} {S : World → Prop} {fuel : Nat} {listed : Array Bool} {a : Act} {w : World} {o0 o1 o2 o3 o4 o5 o6 o7 o8 o9 o10 o11 o12 o13 o14 o15 o16 : Oper} {r : List Oper} (hr : Region.ready md (List.toArray (o0 :: o1 :: o2 :: o3 :: o4 :: o5 :: o6 :: o7 :: o8 :: o9 :: o10 :: o11 :: o12 :: o13 :: o14 :: o15 :: o16 :: r)) listed = [11, 16])
    (h1 : ∀ K' : Act → World → Prop, Shut (∀ a w, S w → (S w → wpAnyH P md (List.toArray (o0 :: o1 :: o2 :: o3 :: o4 :: o5 :: o6 :: o7 :: o8 :: o9 :: o10 :: o11 :: o12 :: o13 :: o14 :: o15 :: o16 :: r)) Q S fuel (listed.setIfInBounds 11 true) a w) → K' a w) → if Region.wanted o11 (yielded (List.toArray (o0 :: o1 :: o2 :: o3 :: o4 :: o5 :: o6 :: o7 :: o8 :: o9 :: o10 :: o11 :: o12 :: o13 :: o14 :: o15 :: o16 :: r)) a.tmps) = true then Oper.wp P o11 a w K' Q else K' (a.put o11.dst undef) w) (h2 : ∀ K' : Act → World → Prop, Shut (∀ a w, S w → (S w → wpAnyH P md (List.toArray (o0 :: o1 :: o2 :: o3 :: o4 :: o5 :: o6 :: o7 :: o8 :: o9 :: o10 :: o11 :: o12 :: o13 :: o14 :: o15 :: o16 :: r)) Q S fuel (listed.setIfInBounds 16 true) a w) → K' a w) → if Region.wanted o16 (yielded (List.toArray (o0 :: o1 :: o2 :: o3 :: o4 :: o5 :: o6 :: o7 :: o8 :: o9 :: o10 :: o11 :: o12 :: o13 :: o14 :: o15 :: o16 :: r)) a.tmps) = true then Oper.wp P o16 a w K' Q else K' (a.put o16.dst undef) w) : wpAnyH P md (List.toArray (o0 :: o1 :: o2 :: o3 :: o4 :: o5 :: o6 :: o7 :: o8 :: o9 :: o10 :: o11 :: o12 :: o13 :: o14 :: o15 :: o16 :: r)) Q S (fuel + 1) listed a w :=
  wpAnyH_ready (rs := [11, 16]) hr (by simp) (AllReadyH.cons rfl h1 (AllReadyH.cons rfl h2 AllReadyH.nil))
theorem twoH_12_16 {P : Program} {Q : Exit → Act → World → Prop} {md : Region.Mode} {S : World → Prop} {fuel : Nat} {listed : Array Bool} {a : Act} {w : World} {o0 o1 o2 o3 o4 o5 o6 o7 o8 o9 o10 o11 o12 o13 o14 o15 o16 : Oper} {r : List Oper} (hr : Region.ready md (List.toArray (o0 :: o1 :: o2 :: o3 :: o4 :: o5 :: o6 :: o7 :: o8 :: o9 :: o10 :: o11 :: o12 :: o13 :: o14 :: o15 :: o16 :: r)) listed = [12, 16])
    (h1 : ∀ K' : Act → World → Prop, Shut (∀ a w, S w → (S w → wpAnyH P md (List.toArray (o0 :: o1 :: o2 :: o3 :: o4 :: o5 :: o6 :: o7 :: o8 :: o9 :: o10 :: o11 :: o12 :: o13 :: o14 :: o15 :: o16 :: r)) Q S fuel (listed.setIfInBounds 12 true) a w) → K' a w) → if Region.wanted o12 (yielded (List.toArray (o0 :: o1 :: o2 :: o3 :: o4 :: o5 :: o6 :: o7 :: o8 :: o9 :: o10 :: o11 :: o12 :: o13 :: o14 :: o15 :: o16 :: r)) a.tmps) = true then Oper.wp P o12 a w K' Q else K' (a.put o12.dst undef) w) (h2 : ∀ K' : Act → World → Prop, Shut (∀ a w, S w → (S w → wpAnyH P md (List.toArray (o0 :: o1 :: o2 :: o3 :: o4 :: o5 :: o6 :: o7 :: o8 :: o9 :: o10 :: o11 :: o12 :: o13 :: o14 :: o15 :: o16 :: r)) Q S fuel (listed.setIfInBounds 16 true) a w) → K' a w) → if Region.wanted o16 (yielded (List.toArray (o0 :: o1 :: o2 :: o3 :: o4 :: o5 :: o6 :: o7 :: o8 :: o9 :: o10 :: o11 :: o12 :: o13 :: o14 :: o15 :: o16 :: r)) a.tmps) = true then Oper.wp P o16 a w K' Q else K' (a.put o16.dst undef) w) : wpAnyH P md (List.toArray (o0 :: o1 :: o2 :: o3 :: o4 :: o5 :: o6 :: o7 :: o8 :: o9 :: o10 :: o11 :: o12 :: o13 :: o14 :: o15 :: o16 :: r)) Q S (fuel + 1) listed a w :=
  wpAnyH_ready (rs := [12, 16]) hr (by simp) (AllReadyH.cons rfl h1 (AllReadyH.cons rfl h2 AllReadyH.nil))
theorem chg2 (w : World) (b : Nat) (x0 x1 : Value) : Chg (fun x => x = b) w ((w.setCell ⟨b, 0, none⟩ x0).setCell ⟨b, 1, none⟩ x1) :=
  (Chg.set (w := w) ⟨b, 0, none⟩ x0).trans (Chg.set ⟨b, 1, none⟩ x1) (U := fun x => x = b) (fun _ h => h) (fun _ h => h)
theorem nel : 2 ≠ 40 := by decide
theorem nel2 : 27 ≠ 40 := by decide
theorem nel3 : 96 ≠ 40 := by decide
theorem low_snoc {pr : List Int} {k : Nat} {x : Int} (hl : pr.length = k) (h : ∀ v, v < k → 0 ≤ gi pr v ∧ gi pr v < 8) (hx : 0 ≤ x ∧ x < 8) : ∀ v, v < k + 1 → 0 ≤ gi (pr ++ [x]) v ∧ gi (pr ++ [x]) v < 8 := fun v hv => by
  by_cases e : v = k
  · subst e; subst hl; rw [gi_app_e]; exact hx
  · rw [gi_app_l (by omega)]; exact h v (by omega)
set_option maxRecDepth 100000 in
set_option maxHeartbeats 3200000 in
theorem walk (A : Option Addr) (n c : Nat) (l : List Int) (w : World) (hy : RY w A n c l) :
    Calls Try.prog 3 #[.slice A n c] w fun e w' => e = .returned (.bool true) ∧ Below w.heap.size w w' := by
  have b1 := hy.cap; have b2 := hy.top
  by_cases hb : 4096 < n
  · have E := Lib.hid (show decide (4096 < n) = true from decide_eq_true hb)
    go_enter Try.func3, Try.ntmps3
    go_wp2_with fail
    refine (big _ _ _ _ _ hy).mono ?_; rintro e w1 ⟨rfl, q1⟩
    rw [E.out]
    go_wp2
    go_ret
    exact ⟨rfl, below_qt q1 (Below.refl _ _)⟩
  have E := Lib.hid (show decide (4096 < n) = false from decide_eq_false hb)
  have hn : n ≤ 4096 := by omega
  clear hb
  go_enter Try.func3, Try.ntmps3
  go_wp2_with fail
  refine (big _ _ _ _ _ hy).mono ?_; rintro e w1 ⟨rfl, q1⟩
  rw [E.out]
  have hw1 := below_qt q1 (Below.refl w.heap.size w)
  have sz1 := hw1.size
  go_wp2_with fail
  refine (roll A n c l _ _ (hy.keep (keeps_below hw1)) hn).mono ?_; rintro e w2 ⟨b, rfl, hd2⟩
  have hw2 := below_then hd2.bel sz1 hw1
  have lo2 := hd2.lo
  have up2 := hd2.lt
  go_wp2_with fail
  refine (w6Arena _ _ b 7 hd2 (by omega) (by omega)).mono ?_; rintro e w3 ⟨s0, s1, z, rfl, ⟨har, hzl⟩, ho3, hd3, hc3⟩
  obtain ⟨A0, c0, A1, c1, rfl, rfl⟩ := ho3.form
  have hw3 : Below w.heap.size w w3 := hw2.trans (hc3.below (by have := hw2.size; omega) (fun x hx => by have h3 : x = b := hx; omega))
  have sz3 := hc3.size
  have hbA : Below w3.heap.size w3 (w3.alloc (.cells #[.slice A0 z.1.length c0, .slice A1 z.2.length c1] 30)) := below_alloc (Nat.le_refl _) (Below.refl _ _)
  have bx := Box.new w3 30 #[.slice A0 z.1.length c0, .slice A1 z.2.length c1]
  have hwA := below_then hbA hw3.size hw3
  have hF := fineAr_of har
  have HAR := Lib.hid har
  have HF := Lib.hid hF
  have hz8 : z.1.length ≤ 7 := by omega
  have hz1 : 1 ≤ z.1.length := hF.1
  have hbl := hd3.lt
  have hbG : Below w3.heap.size w3 ((w3.alloc (.cells #[.slice A0 z.1.length c0, .slice A1 z.2.length c1] 30)).alloc (.cells #[.slice A0 z.1.length c0, .slice A1 z.2.length c1, .slice none 0 0] 33)) := below_alloc (Nat.le_refl _) (below_alloc (Nat.le_refl _) (Below.refl _ _))
  have bG : Box ((w3.alloc (.cells #[.slice A0 z.1.length c0, .slice A1 z.2.length c1] 30)).alloc (.cells #[.slice A0 z.1.length c0, .slice A1 z.2.length c1, .slice none 0 0] 33)) (w3.heap.size + 1) 33 #[.slice A0 z.1.length c0, .slice A1 z.2.length c1, .slice none 0 0] := Box.new' (by simp)
  have hdG := hd3.on hbG
  have hcG := (Chg.refl (fun y => y = b) w3).then_below hbG (Nat.le_refl _)
  have bA := bx.alloc (.cells #[.slice A0 z.1.length c0, .slice A1 z.2.length c1, .slice none 0 0] 33)
  clear har hF hzl bx hbA hd3 hc3 hd2 hwA
  go_wp2
  go_loopw [6] (fun i wr => ∃ (k : Nat) (u : Value) (pr : List Int), k ≤ z.1.length ∧ i = .int .i64 k ∧ pr.length = k ∧ (∀ v, v < k → 0 ≤ gi pr v ∧ gi pr v < 8) ∧ OI 2 wr (w3.heap.size + 2) u pr ∧ Box wr w3.heap.size 30 #[.slice A0 z.1.length c0, .slice A1 z.2.length c1] ∧ Box wr (w3.heap.size + 1) 33 #[.slice A0 z.1.length c0, .slice A1 z.2.length c1, u] ∧ DiceAt w1 wr b ∧ Chg (fun y => y = b) w3 wr) (fun i _ => z.1.length - (intOf i).toNat)
  case atStart => exact ⟨0, _, [], Nat.zero_le _, rfl, rfl, fun v hv => absurd hv (by omega), OI.nil _ _ _, bA, bG, hdG, hcG⟩
  case round =>
    clear bA bG hdG hcG hbG
    obtain ⟨k, u, pr, hk, rfl, hpl, hpr, ho, bA, bG, hdr, hcc⟩ := hrel
    have HPL := Lib.hid hpl; have HPR := Lib.hid hpr
    have hkz : pr.length ≤ 4194304 := by omega
    have hlw : w3.heap.size + 2 ≤ wr.heap.size := bG.lt
    have a0 := bA.d0; have a1 := bA.d1
    clear hpl hpr
    obtain ⟨Ap, cp, rfl⟩ := ho.form
    by_cases hlt : k < z.1.length
    · have hki : (k : Int) < (z.1.length : Int) := by omega
      go_wp2_with fail
      refine wp_region_held_drew (S := fun _ => True) (by kernel_rfl) trivial (fun hHeld => ?_)
      replace ho := ho.drew
      replace bA : Box wr.drew _ _ _ := bA
      replace bG : Box wr.drew _ _ _ := bG
      replace hdr := hdr.on (Below.drew (Below.refl _ _))
      replace hcc : Chg (fun y => y = b) w3 wr.drew := hcc.drewN 1
      replace hlw : w3.heap.size + 2 ≤ wr.drew.heap.size := hlw
      clear a0 a1
      generalize wr.drew = wD at *
      have g2 := bG.c2
      refine takeH0 (v := ?_) (by kernel_rfl) (by kernel_rfl) (by kernel_rfl) (fun _ _ _ h => h) hHeld (by rfl) ?_ ?_
      rotate_left; · (intro w hSw; (try dsimp only at hSw); go_simp; try with_reducible rfl)
      try simp only [Act.put, List.setIfInBounds_toArray, List.set_cons_zero, List.set_cons_succ]
      refine takeH2 (v := ?_) (by kernel_rfl) (by kernel_rfl) (by kernel_rfl) (fun _ _ _ h => h) hHeld (by rfl) ?_ ?_
      rotate_left; · (intro w hSw; (try dsimp only at hSw); go_simp; try with_reducible rfl)
      try simp only [Act.put, List.setIfInBounds_toArray, List.set_cons_zero, List.set_cons_succ]
      refine twoH_1_3 (by kernel_rfl) (fun K hK => ?_) (fun K hK => ?_)
      · go_simp
        refine hK.out _ _ (trivial) (fun hHeld => ?_)
        clear hK K
        try simp only [Act.put, List.setIfInBounds_toArray, List.set_cons_zero, List.set_cons_succ]
        refine callH3 (by kernel_rfl) (fun K hK => ?_)
        go_simp
        go_at_call 14
        refine (below w1 _ b 8 hdr (by omega)).mono ?_; rintro e w6 ⟨x, rfl, hx6, hd6, hc6⟩
        have bA6 : Box w6 w3.heap.size 30 #[.slice A0 z.1.length c0, .slice A1 z.2.length c1] := (hc6.block _ bA.lt (fun e => by have h3 : w3.heap.size = b := e; omega)).trans bA
        have bG6 : Box w6 (w3.heap.size + 1) 33 #[.slice A0 z.1.length c0, .slice A1 z.2.length c1, (.slice Ap pr.length cp)] := (hc6.block _ bG.lt (fun e => by have h3 : w3.heap.size + 1 = b := e; omega)).trans bG
        have g26 := bG6.c2
        have ho6 := ho.chg hc6 (fun y hy e => by have h3 : y = b := e; have := (ho.lt y hy).1; omega)
        have hcc6 := chg_then hcc hc6
        have hl6 : w3.heap.size + 2 ≤ w6.heap.size := Nat.le_trans hlw hc6.size
        go_wp2_with fail
        refine hK.out _ _ (trivial) (fun hHeld => ?_)
        clear hK K
        try simp only [Act.put, List.setIfInBounds_toArray, List.set_cons_zero, List.set_cons_succ]
        refine callH4 (by kernel_rfl) (fun K hK => ?_)
        go_simp
        refine hK.out _ _ (trivial) (fun hHeld => ?_)
        clear hK K
        try simp only [Act.put, List.setIfInBounds_toArray, List.set_cons_zero, List.set_cons_succ]
        refine callH5 (by kernel_rfl) (fun K hK => ?_)
        have hbA : Below w6.heap.size w6 (w6.alloc (.cells #[.int .i64 x] 2)) := below_alloc (Nat.le_refl _) (Below.refl _ _)
        have hq1 : RI (w6.alloc (.cells #[.int .i64 x] 2)) (some ⟨w6.heap.size, 0, none⟩) 1 1 [x] := RI.one1 ((Box.new w6 2 #[.int .i64 x]).cell 0)
        have hoA := ho6.below hbA
        have hlA : w3.heap.size + 2 ≤ (w6.alloc (.cells #[.int .i64 x] 2)).heap.size := Nat.le_trans hl6 hbA.size
        refine step_of_list (by rfl) (wp_appI (.tmp 27) (.tmp 30) (by rfl) (w6.alloc (.cells #[.int .i64 x] 2)) (w3.heap.size + 2) (.slice Ap pr.length cp) pr (by rfl) hoA (some ⟨w6.heap.size, 0, none⟩) 1 1 [x] (by rfl) hq1 hkz (by omega) hlA ?_)
        intro v7 w7 ho7 hb7 hc7 hat7
        obtain ⟨A7, c7, h1e⟩ := ho7.form
        have h1f : v7 = .slice A7 (pr.length + 1) c7 := by rw [h1e]; simp
        clear h1e
        subst h1f
        have hown : ∀ y, (Value.slice Ap pr.length cp).ownBlock = some y → w3.heap.size + 2 ≤ y := fun y hy => (hoA.lt y hy).1
        have bA7 : Box w7 w3.heap.size 30 #[.slice A0 z.1.length c0, .slice A1 z.2.length c1] := (hc7.block _ (bA6.alloc _).lt (fun e => by have := hown _ e; omega)).trans (bA6.alloc _)
        have bG7 : Box w7 (w3.heap.size + 1) 33 #[.slice A0 z.1.length c0, .slice A1 z.2.length c1, (.slice Ap pr.length cp)] := (hc7.block _ (bG6.alloc _).lt (fun e => by have := hown _ e; omega)).trans (bG6.alloc _)
        have hd7 := (hd6.on hbA).chg hc7 (fun y hy => by have := hown y hy; omega)
        have hcc7 := (hcc6.then_below hbA (by omega)).push hc7 (fun y hy => .inr (by have := hown y hy; omega))
        have g27 := bG7.c2
        have f27 := bG7.hot 2
        clear ho ho6 hoA hq1 bA bG bA6 bG6 hdr hd6 hcc hcc6 hc6 hbA hat7
        refine hK.out _ _ (trivial) (fun hHeld => ?_)
        clear hK K
        try simp only [Act.put, List.setIfInBounds_toArray, List.set_cons_zero, List.set_cons_succ]
        refine takeH6 (v := ?_) (by kernel_rfl) (by kernel_rfl) (by kernel_rfl) (fun _ _ _ h => h) hHeld (by rfl) ?_ ?_
        rotate_left; · (intro w hSw; (try dsimp only at hSw); go_simp; try with_reducible rfl)
        try simp only [Act.put, List.setIfInBounds_toArray, List.set_cons_zero, List.set_cons_succ]
        refine callH7 (by kernel_rfl) (fun K hK => ?_)
        go_simp
        refine hK.out _ _ (trivial) (fun hHeld => ?_)
        clear hK K
        try simp only [Act.put, List.setIfInBounds_toArray, List.set_cons_zero, List.set_cons_succ]
        refine wpAnyH_done (by kernel_rfl) ?_ _
        have ch8 : Chg (fun y => y = w3.heap.size + 1) w7 (w7.setCell ⟨w3.heap.size + 1, 2, none⟩ (.slice A7 (pr.length + 1) c7)) := Chg.set ⟨w3.heap.size + 1, 2, none⟩ (.slice A7 (pr.length + 1) c7)
        have bG8 : Box (w7.setCell ⟨w3.heap.size + 1, 2, none⟩ (.slice A7 (pr.length + 1) c7)) (w3.heap.size + 1) 33 #[.slice A0 z.1.length c0, .slice A1 z.2.length c1, (.slice A7 (pr.length + 1) c7)] := bG7.set_ 2 (.slice A7 (pr.length + 1) c7)
        have bA8 : Box (w7.setCell ⟨w3.heap.size + 1, 2, none⟩ (.slice A7 (pr.length + 1) c7)) w3.heap.size 30 #[.slice A0 z.1.length c0, .slice A1 z.2.length c1] := bA7.far (by show w3.heap.size ≠ w3.heap.size + 1; omega) _
        have ho8 := ho7.chg ch8 (fun y hy e => by have h3 : y = w3.heap.size + 1 := e; have := (ho7.lt y hy).1; omega)
        have hd8 := hd7.chg ch8 (fun y hy => by have h3 : y = w3.heap.size + 1 := hy; omega)
        have hcc8 := hcc7.push ch8 (fun y hy => .inr (by have h3 : y = w3.heap.size + 1 := hy; omega))
        go_wp2
        exact ⟨⟨k + 1, _, pr ++ [x], by omega, by go_num, by rw [List.length_append, HPL.out]; rfl, low_snoc HPL.out HPR.out hx6, ho8, bA8, bG8, hd8, hcc8⟩, by simp [intOf]; omega⟩
      · go_simp
        go_at_call 14
        refine (below w1 _ b 8 hdr (by omega)).mono ?_; rintro e w6 ⟨x, rfl, hx6, hd6, hc6⟩
        have bA6 : Box w6 w3.heap.size 30 #[.slice A0 z.1.length c0, .slice A1 z.2.length c1] := (hc6.block _ bA.lt (fun e => by have h3 : w3.heap.size = b := e; omega)).trans bA
        have bG6 : Box w6 (w3.heap.size + 1) 33 #[.slice A0 z.1.length c0, .slice A1 z.2.length c1, (.slice Ap pr.length cp)] := (hc6.block _ bG.lt (fun e => by have h3 : w3.heap.size + 1 = b := e; omega)).trans bG
        have g26 := bG6.c2
        have ho6 := ho.chg hc6 (fun y hy e => by have h3 : y = b := e; have := (ho.lt y hy).1; omega)
        have hcc6 := chg_then hcc hc6
        have hl6 : w3.heap.size + 2 ≤ w6.heap.size := Nat.le_trans hlw hc6.size
        have g2A : ∀ o, (w6.alloc o).cell? ⟨w3.heap.size + 1, 2, none⟩ = some (.slice Ap pr.length cp) := fun o => keepA g26
        go_wp2_with fail
        refine hK.out _ _ (trivial) (fun hHeld => ?_)
        clear hK K
        try simp only [Act.put, List.setIfInBounds_toArray, List.set_cons_zero, List.set_cons_succ]
        refine twoH_1_4 (by kernel_rfl) (fun K hK => ?_) (fun K hK => ?_)
        · go_simp
          refine hK.out _ _ (trivial) (fun hHeld => ?_)
          clear hK K
          try simp only [Act.put, List.setIfInBounds_toArray, List.set_cons_zero, List.set_cons_succ]
          refine callH4 (by kernel_rfl) (fun K hK => ?_)
          go_simp
          refine hK.out _ _ (trivial) (fun hHeld => ?_)
          clear hK K
          try simp only [Act.put, List.setIfInBounds_toArray, List.set_cons_zero, List.set_cons_succ]
          refine callH5 (by kernel_rfl) (fun K hK => ?_)
          have hbA : Below w6.heap.size w6 (w6.alloc (.cells #[.int .i64 x] 2)) := below_alloc (Nat.le_refl _) (Below.refl _ _)
          have hq1 : RI (w6.alloc (.cells #[.int .i64 x] 2)) (some ⟨w6.heap.size, 0, none⟩) 1 1 [x] := RI.one1 ((Box.new w6 2 #[.int .i64 x]).cell 0)
          have hoA := ho6.below hbA
          have hlA : w3.heap.size + 2 ≤ (w6.alloc (.cells #[.int .i64 x] 2)).heap.size := Nat.le_trans hl6 hbA.size
          refine step_of_list (by rfl) (wp_appI (.tmp 27) (.tmp 30) (by rfl) (w6.alloc (.cells #[.int .i64 x] 2)) (w3.heap.size + 2) (.slice Ap pr.length cp) pr (by rfl) hoA (some ⟨w6.heap.size, 0, none⟩) 1 1 [x] (by rfl) hq1 hkz (by omega) hlA ?_)
          intro v7 w7 ho7 hb7 hc7 hat7
          obtain ⟨A7, c7, h1e⟩ := ho7.form
          have h1f : v7 = .slice A7 (pr.length + 1) c7 := by rw [h1e]; simp
          clear h1e
          subst h1f
          have hown : ∀ y, (Value.slice Ap pr.length cp).ownBlock = some y → w3.heap.size + 2 ≤ y := fun y hy => (hoA.lt y hy).1
          have bA7 : Box w7 w3.heap.size 30 #[.slice A0 z.1.length c0, .slice A1 z.2.length c1] := (hc7.block _ (bA6.alloc _).lt (fun e => by have := hown _ e; omega)).trans (bA6.alloc _)
          have bG7 : Box w7 (w3.heap.size + 1) 33 #[.slice A0 z.1.length c0, .slice A1 z.2.length c1, (.slice Ap pr.length cp)] := (hc7.block _ (bG6.alloc _).lt (fun e => by have := hown _ e; omega)).trans (bG6.alloc _)
          have hd7 := (hd6.on hbA).chg hc7 (fun y hy => by have := hown y hy; omega)
          have hcc7 := (hcc6.then_below hbA (by omega)).push hc7 (fun y hy => .inr (by have := hown y hy; omega))
          have g27 := bG7.c2
          have f27 := bG7.hot 2
          clear ho ho6 hoA hq1 bA bG bA6 bG6 hdr hd6 hcc hcc6 hc6 hbA hat7
          refine hK.out _ _ (trivial) (fun hHeld => ?_)
          clear hK K
          try simp only [Act.put, List.setIfInBounds_toArray, List.set_cons_zero, List.set_cons_succ]
          refine takeH6 (v := ?_) (by kernel_rfl) (by kernel_rfl) (by kernel_rfl) (fun _ _ _ h => h) hHeld (by rfl) ?_ ?_
          rotate_left; · (intro w hSw; (try dsimp only at hSw); go_simp; try with_reducible rfl)
          try simp only [Act.put, List.setIfInBounds_toArray, List.set_cons_zero, List.set_cons_succ]
          refine callH7 (by kernel_rfl) (fun K hK => ?_)
          go_simp
          refine hK.out _ _ (trivial) (fun hHeld => ?_)
          clear hK K
          try simp only [Act.put, List.setIfInBounds_toArray, List.set_cons_zero, List.set_cons_succ]
          refine wpAnyH_done (by kernel_rfl) ?_ _
          have ch8 : Chg (fun y => y = w3.heap.size + 1) w7 (w7.setCell ⟨w3.heap.size + 1, 2, none⟩ (.slice A7 (pr.length + 1) c7)) := Chg.set ⟨w3.heap.size + 1, 2, none⟩ (.slice A7 (pr.length + 1) c7)
          have bG8 : Box (w7.setCell ⟨w3.heap.size + 1, 2, none⟩ (.slice A7 (pr.length + 1) c7)) (w3.heap.size + 1) 33 #[.slice A0 z.1.length c0, .slice A1 z.2.length c1, (.slice A7 (pr.length + 1) c7)] := bG7.set_ 2 (.slice A7 (pr.length + 1) c7)
          have bA8 : Box (w7.setCell ⟨w3.heap.size + 1, 2, none⟩ (.slice A7 (pr.length + 1) c7)) w3.heap.size 30 #[.slice A0 z.1.length c0, .slice A1 z.2.length c1] := bA7.far (by show w3.heap.size ≠ w3.heap.size + 1; omega) _
          have ho8 := ho7.chg ch8 (fun y hy e => by have h3 : y = w3.heap.size + 1 := e; have := (ho7.lt y hy).1; omega)
          have hd8 := hd7.chg ch8 (fun y hy => by have h3 : y = w3.heap.size + 1 := hy; omega)
          have hcc8 := hcc7.push ch8 (fun y hy => .inr (by have h3 : y = w3.heap.size + 1 := hy; omega))
          go_wp2
          exact ⟨⟨k + 1, _, pr ++ [x], by omega, by go_num, by rw [List.length_append, HPL.out]; rfl, low_snoc HPL.out HPR.out hx6, ho8, bA8, bG8, hd8, hcc8⟩, by simp [intOf]; omega⟩
        · go_simp
          refine hK.out _ _ (trivial) (fun hHeld => ?_)
          clear hK K
          try simp only [Act.put, List.setIfInBounds_toArray, List.set_cons_zero, List.set_cons_succ]
          refine callH1 (by kernel_rfl) (fun K hK => ?_)
          go_simp
          refine hK.out _ _ (trivial) (fun hHeld => ?_)
          clear hK K
          try simp only [Act.put, List.setIfInBounds_toArray, List.set_cons_zero, List.set_cons_succ]
          refine callH5 (by kernel_rfl) (fun K hK => ?_)
          have hbA : Below w6.heap.size w6 (w6.alloc (.cells #[.int .i64 x] 2)) := below_alloc (Nat.le_refl _) (Below.refl _ _)
          have hq1 : RI (w6.alloc (.cells #[.int .i64 x] 2)) (some ⟨w6.heap.size, 0, none⟩) 1 1 [x] := RI.one1 ((Box.new w6 2 #[.int .i64 x]).cell 0)
          have hoA := ho6.below hbA
          have hlA : w3.heap.size + 2 ≤ (w6.alloc (.cells #[.int .i64 x] 2)).heap.size := Nat.le_trans hl6 hbA.size
          refine step_of_list (by rfl) (wp_appI (.tmp 27) (.tmp 30) (by rfl) (w6.alloc (.cells #[.int .i64 x] 2)) (w3.heap.size + 2) (.slice Ap pr.length cp) pr (by rfl) hoA (some ⟨w6.heap.size, 0, none⟩) 1 1 [x] (by rfl) hq1 hkz (by omega) hlA ?_)
          intro v7 w7 ho7 hb7 hc7 hat7
          obtain ⟨A7, c7, h1e⟩ := ho7.form
          have h1f : v7 = .slice A7 (pr.length + 1) c7 := by rw [h1e]; simp
          clear h1e
          subst h1f
          have hown : ∀ y, (Value.slice Ap pr.length cp).ownBlock = some y → w3.heap.size + 2 ≤ y := fun y hy => (hoA.lt y hy).1
          have bA7 : Box w7 w3.heap.size 30 #[.slice A0 z.1.length c0, .slice A1 z.2.length c1] := (hc7.block _ (bA6.alloc _).lt (fun e => by have := hown _ e; omega)).trans (bA6.alloc _)
          have bG7 : Box w7 (w3.heap.size + 1) 33 #[.slice A0 z.1.length c0, .slice A1 z.2.length c1, (.slice Ap pr.length cp)] := (hc7.block _ (bG6.alloc _).lt (fun e => by have := hown _ e; omega)).trans (bG6.alloc _)
          have hd7 := (hd6.on hbA).chg hc7 (fun y hy => by have := hown y hy; omega)
          have hcc7 := (hcc6.then_below hbA (by omega)).push hc7 (fun y hy => .inr (by have := hown y hy; omega))
          have g27 := bG7.c2
          have f27 := bG7.hot 2
          clear ho ho6 hoA hq1 bA bG bA6 bG6 hdr hd6 hcc hcc6 hc6 hbA hat7
          refine hK.out _ _ (trivial) (fun hHeld => ?_)
          clear hK K
          try simp only [Act.put, List.setIfInBounds_toArray, List.set_cons_zero, List.set_cons_succ]
          refine takeH6 (v := ?_) (by kernel_rfl) (by kernel_rfl) (by kernel_rfl) (fun _ _ _ h => h) hHeld (by rfl) ?_ ?_
          rotate_left; · (intro w hSw; (try dsimp only at hSw); go_simp; try with_reducible rfl)
          try simp only [Act.put, List.setIfInBounds_toArray, List.set_cons_zero, List.set_cons_succ]
          refine callH7 (by kernel_rfl) (fun K hK => ?_)
          go_simp
          refine hK.out _ _ (trivial) (fun hHeld => ?_)
          clear hK K
          try simp only [Act.put, List.setIfInBounds_toArray, List.set_cons_zero, List.set_cons_succ]
          refine wpAnyH_done (by kernel_rfl) ?_ _
          have ch8 : Chg (fun y => y = w3.heap.size + 1) w7 (w7.setCell ⟨w3.heap.size + 1, 2, none⟩ (.slice A7 (pr.length + 1) c7)) := Chg.set ⟨w3.heap.size + 1, 2, none⟩ (.slice A7 (pr.length + 1) c7)
          have bG8 : Box (w7.setCell ⟨w3.heap.size + 1, 2, none⟩ (.slice A7 (pr.length + 1) c7)) (w3.heap.size + 1) 33 #[.slice A0 z.1.length c0, .slice A1 z.2.length c1, (.slice A7 (pr.length + 1) c7)] := bG7.set_ 2 (.slice A7 (pr.length + 1) c7)
          have bA8 : Box (w7.setCell ⟨w3.heap.size + 1, 2, none⟩ (.slice A7 (pr.length + 1) c7)) w3.heap.size 30 #[.slice A0 z.1.length c0, .slice A1 z.2.length c1] := bA7.far (by show w3.heap.size ≠ w3.heap.size + 1; omega) _
          have ho8 := ho7.chg ch8 (fun y hy e => by have h3 : y = w3.heap.size + 1 := e; have := (ho7.lt y hy).1; omega)
          have hd8 := hd7.chg ch8 (fun y hy => by have h3 : y = w3.heap.size + 1 := hy; omega)
          have hcc8 := hcc7.push ch8 (fun y hy => .inr (by have h3 : y = w3.heap.size + 1 := hy; omega))
          go_wp2
          exact ⟨⟨k + 1, _, pr ++ [x], by omega, by go_num, by rw [List.length_append, HPL.out]; rfl, low_snoc HPL.out HPR.out hx6, ho8, bA8, bG8, hd8, hcc8⟩, by simp [intOf]; omega⟩
    · have hkz1 : k = z.1.length := by omega
      have ho4 := ho3.chg hcc (fun y hy => by have h3 : y = b := hy; omega)
      have hw9 : Below w.heap.size w wr := hw3.trans (hcc.below hw3.size (fun x hx => by have h3 : x = b := hx; omega))
      have hpl := HPL.out
      have HPB := Lib.hid (show parB (z.1, z.2, pr) = true from parB_yes HAR.out ⟨by show pr.length = z.1.length; omega, fun i hi => by have h3 := HPR.out i (by have h4 : i < pr.length := hi; omega); show 0 ≤ gi pr i ∧ gi pr i ≤ 40; omega⟩)
      have HS8 := Lib.hid (show ∀ v, v < pr.length → gi pr v < 8 from fun v hv => (HPR.out v (by omega)).2)
      have HOK := Lib.hid (show okPP (z.1, z.2, pr) = true from okPP_yes HPB.out (ppS_small HS8.out 20))
      have HRR := Lib.hid (show ppR (z.1, z.2, pr) = ppS pr 20 from ppR_yes HOK.out)
      have HPW := Lib.hid (show (inR (z.1.length : Int) 0 256 && pairsB (ppS pr 20) (z.1.length : Int)) = true by
        rw [ppS_pairs HS8.out (by omega), show inR (z.1.length : Int) 0 256 = true from decide_eq_true (by omega)]; rfl)
      have HN := Lib.hid (show pr.length = z.1.length by omega)
      have hgP : RPv wr (.slice A0 z.1.length c0) (.slice A1 z.2.length c1) (.slice Ap pr.length cp) (z.1, z.2, pr) := RPv.of ho4.reads.ri ho4.reads.rii ho.reads
      have g0 := bG.c0; have g1 := bG.c1; have g2 := bG.c2
      obtain rfl := hkz1
      clear hpl
      go_wp2_with fail
      refine (implParityPairs _ _ _ (z.1, z.2, pr) _ _ (Nat.le_refl _) hgP).mono ?_; rintro e w11 ⟨vP, rfl, hoP, hb11⟩
      rw [HOK.out]
      rw [HRR.out] at hoP
      obtain ⟨AP, cP, rfl⟩ := hoP.form
      have bA11 := bA.on hb11; have bG11 := bG.on hb11
      have hd11 := hdr.on hb11
      have ho11 := ho.below hb11; have ho4 := ho4.below hb11
      have hw11 := below_then hb11 hw9.size hw9
      have hlw11 : w3.heap.size + 2 ≤ w11.heap.size := Nat.le_trans hlw hb11.size
      clear bA bG hdr ho hcc g0 g1 g2 hb11 a0 a1 hgP
      have a0 := bA11.d0; have a1 := bA11.d1
      go_wp2_with fail
      refine (specPairsOk _ _ _ (ppS pr 20) (z.1.length : Int) _ hoP.reads).mono ?_; rintro e w12 ⟨rfl, hq12⟩
      rw [HPW.out]
      have hb12 := below_qt hq12 (Below.refl w11.heap.size w11)
      have bA := bA11.on hb12; have bG := bG11.on hb12; have hd := hd11.on hb12; have ho := ho11.below hb12; replace ho4 := ho4.below hb12; replace hoP := hoP.below hb12
      have hw12 := below_then hb12 hw11.size hw11
      have hlw12 : w3.heap.size + 2 ≤ w12.heap.size := Nat.le_trans hlw11 hb12.size
      clear bA11 bG11 hd11 ho11 hq12 hb12 hw11 hw9 a0 a1
      have a0 := bA.d0; have a1 := bA.d1
      go_wp2_with fail
      go_upto_region 13 with (fail)
      go_cut [9, 10] (fun u0 u1 wx => Hid (∃ (bl : Nat) (S L : Option Addr) (ms ds ml dl : Nat) (st lp : List Int), u0 = .pointer (some ⟨bl, 0, none⟩) ∧ u1 = .bool true ∧ lasE z.1 z.2 (st, lp) = true ∧ Box wx bl 40 #[.slice S ms ds, .slice L ml dl] ∧ RI wx S ms ds st ∧ RI wx L ml dl lp ∧ Box wx w3.heap.size 30 #[.slice A0 z.1.length c0, .slice A1 z.2.length c1] ∧ Box wx (w3.heap.size + 1) 33 #[.slice A0 z.1.length c0, .slice A1 z.2.length c1, (.slice Ap pr.length cp)] ∧ RAv wx (.slice A0 z.1.length c0) (.slice A1 z.2.length c1) z.1 z.2 ∧ RI wx Ap pr.length cp pr ∧ RPS wx AP (ppS pr 20).length cP (ppS pr 20) ∧ Below w.heap.size w wx))
      case first =>
        have hwC := Below.drew hw12
        replace bA : Box w12.drew _ _ _ := bA; replace bG : Box w12.drew _ _ _ := bG
        replace hd := hd.on (Below.drew (Below.refl _ _))
        replace ho := ho.drew; replace ho4 := ho4.below (Below.drew (Below.refl _ _)); replace hoP := hoP.below (Below.drew (Below.refl _ _))
        have hlw : w3.heap.size + 2 ≤ w12.drew.heap.size := hlw12
        replace a0 : w12.drew.cell? _ = _ := a0; replace a1 : w12.drew.cell? _ = _ := a1
        refine wp_region_held_drew (S := (fun w' => w'.cell? ⟨w3.heap.size, 0, none⟩ = some (.slice A0 z.1.length c0) ∧ w'.cell? ⟨w3.heap.size, 1, none⟩ = some (.slice A1 z.2.length c1))) (by kernel_rfl) ⟨a0, a1⟩ (fun hHeld => ?_)
        clear hw12 hlw12
        generalize w12.drew = wD at *
        refine takeH0 (v := ?_) (by kernel_rfl) (by kernel_rfl) (by kernel_rfl) (fun _ _ _ h => h) hHeld (by rfl) ?_ ?_
        rotate_left; · (intro w hSw; (try dsimp only at hSw); go_simp; try with_reducible rfl)
        try simp only [Act.put, List.setIfInBounds_toArray, List.set_cons_zero, List.set_cons_succ]
        refine takeH1 (v := ?_) (by kernel_rfl) (by kernel_rfl) (by kernel_rfl) (fun _ _ _ h => h) hHeld (by rfl) ?_ ?_
        rotate_left; · (intro w hSw; (try dsimp only at hSw); go_simp; try with_reducible rfl)
        try simp only [Act.put, List.setIfInBounds_toArray, List.set_cons_zero, List.set_cons_succ]
        refine takeH2 (v := ?_) (by kernel_rfl) (by kernel_rfl) (by kernel_rfl) (fun _ _ _ h => h) hHeld (by rfl) ?_ ?_
        rotate_left; · (intro w hSw; (try dsimp only at hSw); go_simp; try with_reducible rfl)
        try simp only [Act.put, List.setIfInBounds_toArray, List.set_cons_zero, List.set_cons_succ]
        refine takeH4 (v := ?_) (by kernel_rfl) (by kernel_rfl) (by kernel_rfl) (fun _ _ _ h => h) hHeld (by rfl) ?_ ?_
        rotate_left; · (intro w hSw; (try dsimp only at hSw); go_simp; try with_reducible rfl)
        try simp only [Act.put, List.setIfInBounds_toArray, List.set_cons_zero, List.set_cons_succ]
        refine takeH5 (v := ?_) (by kernel_rfl) (by kernel_rfl) (by kernel_rfl) (fun _ _ _ h => h) hHeld (by rfl) ?_ ?_
        rotate_left; · (intro w hSw; (try dsimp only at hSw); go_simp; try with_reducible rfl)
        try simp only [Act.put, List.setIfInBounds_toArray, List.set_cons_zero, List.set_cons_succ]
        refine takeH7 (v := ?_) (by kernel_rfl) (by kernel_rfl) (by kernel_rfl) (fun _ _ _ h => h) hHeld (by rfl) ?_ ?_
        rotate_left; · (intro w hSw; (try dsimp only at hSw); go_simp; try with_reducible rfl)
        try simp only [Act.put, List.setIfInBounds_toArray, List.set_cons_zero, List.set_cons_succ]
        refine takeH8 (v := ?_) (by kernel_rfl) (by kernel_rfl) (by kernel_rfl) (fun _ _ _ h => h) hHeld (by rfl) ?_ ?_
        rotate_left; · (intro w hSw; (try dsimp only at hSw); go_simp; try with_reducible rfl)
        try simp only [Act.put, List.setIfInBounds_toArray, List.set_cons_zero, List.set_cons_succ]
        refine takeH9 (v := ?_) (by kernel_rfl) (by kernel_rfl) (by kernel_rfl) (fun _ _ _ h => h) hHeld (by rfl) ?_ ?_
        rotate_left; · (intro w hSw; (try dsimp only at hSw); go_simp; try with_reducible rfl)
        try simp only [Act.put, List.setIfInBounds_toArray, List.set_cons_zero, List.set_cons_succ]
        refine takeH10 (v := ?_) (by kernel_rfl) (by kernel_rfl) (by kernel_rfl) (fun _ _ _ h => h) hHeld (by rfl) ?_ ?_
        rotate_left; · (intro w hSw; (try dsimp only at hSw); go_simp; try with_reducible rfl)
        try simp only [Act.put, List.setIfInBounds_toArray, List.set_cons_zero, List.set_cons_succ]
        refine twoH_3_16 (by kernel_rfl) (fun K hK => ?_) (fun K hK => ?_)
        · go_simp
          go_at_call 18
          refine (w6Plan _ _ z 0 w1 _ b _ hd ho4 (by omega) HF.out).mono ?_; rintro e wc0 ⟨vE, pE, rfl, hfE, hoE, hdE, hc⟩
          obtain ⟨AE, kE, rfl⟩ := hoE.form
          have hsE := hlw
          have tA : Box _ w3.heap.size 30 #[.slice A0 z.1.length c0, .slice A1 z.2.length c1] := (hc.block _ bA.lt (fun e => by have h3 : w3.heap.size = b := e; omega)).trans bA
          have tG : Box _ (w3.heap.size + 1) 33 #[.slice A0 z.1.length c0, .slice A1 z.2.length c1, (.slice Ap pr.length cp)] := (hc.block _ bG.lt (fun e => by have h3 : w3.heap.size + 1 = b := e; omega)).trans bG
          clear bA bG; have bA := tA; have bG := tG; clear tA tG
          replace ho := ho.chg hc (fun y hy e => by have h3 : y = b := e; have := (ho.lt y hy).1; omega)
          replace ho4 := ho4.chg hc (fun y hy => by have h3 : y = b := hy; omega)
          replace hoP := hoP.chg hc (fun y hy => by have h3 : y = b := hy; omega)
          replace hwC := hwC.trans (hc.below hwC.size (fun x hx => by have h3 : x = b := hx; omega))
          replace hlw := Nat.le_trans hlw hc.size
          clear hd; have hd := hdE; clear hdE hc
          have HFE := Lib.hid hfE; clear hfE
          have a0 := bA.d0; have a1 := bA.d1
          go_wp2_with fail
          refine hK.out _ _ (⟨a0, a1⟩) (fun hHeld => ?_)
          clear hK K
          try simp only [Act.put, List.setIfInBounds_toArray, List.set_cons_zero, List.set_cons_succ]
          refine twoH_6_16 (by kernel_rfl) (fun K hK => ?_) (fun K hK => ?_)
          · go_simp
            go_at_call 18
            refine (w6Plan _ _ z 1 w1 _ b _ hd ho4 (by omega) HF.out).mono ?_; rintro e wc1 ⟨vD, pD, rfl, hfD, hoD, hdD, hc⟩
            obtain ⟨AD, kD, rfl⟩ := hoD.form
            have hsD := hlw
            have tA : Box _ w3.heap.size 30 #[.slice A0 z.1.length c0, .slice A1 z.2.length c1] := (hc.block _ bA.lt (fun e => by have h3 : w3.heap.size = b := e; omega)).trans bA
            have tG : Box _ (w3.heap.size + 1) 33 #[.slice A0 z.1.length c0, .slice A1 z.2.length c1, (.slice Ap pr.length cp)] := (hc.block _ bG.lt (fun e => by have h3 : w3.heap.size + 1 = b := e; omega)).trans bG
            clear bA bG; have bA := tA; have bG := tG; clear tA tG
            replace ho := ho.chg hc (fun y hy e => by have h3 : y = b := e; have := (ho.lt y hy).1; omega)
            replace hoE := hoE.chg hc (fun y hy e => by have h3 : y = b := e; have := (hoE.lt y hy).1; omega)
            replace ho4 := ho4.chg hc (fun y hy => by have h3 : y = b := hy; omega)
            replace hoP := hoP.chg hc (fun y hy => by have h3 : y = b := hy; omega)
            replace hwC := hwC.trans (hc.below hwC.size (fun x hx => by have h3 : x = b := hx; omega))
            replace hlw := Nat.le_trans hlw hc.size
            clear hd; have hd := hdD; clear hdD hc
            have HFD := Lib.hid hfD; clear hfD
            have a0 := bA.d0; have a1 := bA.d1
            go_wp2_with fail
            refine hK.out _ _ (⟨a0, a1⟩) (fun hHeld => ?_)
            clear hK K
            try simp only [Act.put, List.setIfInBounds_toArray, List.set_cons_zero, List.set_cons_succ]
            refine twoH_11_16 (by kernel_rfl) (fun K hK => ?_) (fun K hK => ?_)
            · go_simp
              go_at_call 14
              refine (below w1 _ b (z.1.length : Int) hd (by omega)).mono ?_; rintro e wc2 ⟨vx, rfl, hvx, hd2, hc⟩
              obtain ⟨vn, rfl⟩ := Int.eq_ofNat_of_zero_le hvx.1
              have tA : Box _ w3.heap.size 30 #[.slice A0 z.1.length c0, .slice A1 z.2.length c1] := (hc.block _ bA.lt (fun e => by have h3 : w3.heap.size = b := e; omega)).trans bA
              have tG : Box _ (w3.heap.size + 1) 33 #[.slice A0 z.1.length c0, .slice A1 z.2.length c1, (.slice Ap pr.length cp)] := (hc.block _ bG.lt (fun e => by have h3 : w3.heap.size + 1 = b := e; omega)).trans bG
              clear bA bG; have bA := tA; have bG := tG; clear tA tG
              replace ho := ho.chg hc (fun y hy e => by have h3 : y = b := e; have := (ho.lt y hy).1; omega)
              replace hoE := hoE.chg hc (fun y hy e => by have h3 : y = b := e; have := (hoE.lt y hy).1; omega)
              replace hoD := hoD.chg hc (fun y hy e => by have h3 : y = b := e; have := (hoD.lt y hy).1; omega)
              replace ho4 := ho4.chg hc (fun y hy => by have h3 : y = b := hy; omega)
              replace hoP := hoP.chg hc (fun y hy => by have h3 : y = b := hy; omega)
              replace hwC := hwC.trans (hc.below hwC.size (fun x hx => by have h3 : x = b := hx; omega))
              replace hlw := Nat.le_trans hlw hc.size
              clear hd; have hd := hd2; clear hd2 hc
              have a0 := bA.d0; have a1 := bA.d1
              go_wp2_with fail
              refine hK.out _ _ (⟨a0, a1⟩) (fun hHeld => ?_)
              clear hK K
              try simp only [Act.put, List.setIfInBounds_toArray, List.set_cons_zero, List.set_cons_succ]
              refine twoH_12_16 (by kernel_rfl) (fun K hK => ?_) (fun K hK => ?_)
              · go_simp
                go_at_call 17
                refine (playOf _ _ _ _ _ _ _ _ _ _ _ _ z.1 z.2 pE pD vn _ _ (Nat.le_refl _) ho4.reads.ri ho4.reads.rii hoE.reads hoD.reads HF.out HAR.out HFE.out HFD.out (by have := hvx.2; omega)).mono ?_; rintro e wc3 ⟨v5, v6, st, lp, rfl, hpl, hlen, ho5, ho6, hbN⟩
                obtain ⟨A5, k5, rfl⟩ := ho5.form; obtain ⟨A6, k6, rfl⟩ := ho6.form
                replace bA := bA.on hbN; replace bG := bG.on hbN
                replace ho := ho.below hbN
                replace hoE := hoE.below hbN
                replace hoD := hoD.below hbN
                replace ho4 := ho4.below hbN; replace hoP := hoP.below hbN; replace hd := hd.on hbN
                replace hwC := below_then hbN hwC.size hwC
                replace hlw := Nat.le_trans hlw hbN.size
                clear hbN
                have HLA := Lib.hid (play_lasso (full_step HF.out HFE.out HFD.out) (by have := hvx.2; omega) hpl (by have h1 := hlen.1; have h2 := hlen.2; omega)); clear hpl
                have a0 := bA.d0; have a1 := bA.d1
                go_wp2_with fail
                refine hK.out _ _ (⟨a0, a1⟩) (fun hHeld => ?_)
                clear hK K
                try simp only [Act.put, List.setIfInBounds_toArray, List.set_cons_zero, List.set_cons_succ]
                refine takeH13 (v := ?_) (by kernel_rfl) (by kernel_rfl) (by kernel_rfl) (fun _ _ _ h => h) hHeld (by rfl) ?_ ?_
                rotate_left; · (intro w hSw; (try dsimp only at hSw); go_simp; try with_reducible rfl)
                try simp only [Act.put, List.setIfInBounds_toArray, List.set_cons_zero, List.set_cons_succ]
                refine takeH14 (v := ?_) (by kernel_rfl) (by kernel_rfl) (by kernel_rfl) (fun _ _ _ h => h) hHeld (by rfl) ?_ ?_
                rotate_left; · (intro w hSw; (try dsimp only at hSw); go_simp; try with_reducible rfl)
                try simp only [Act.put, List.setIfInBounds_toArray, List.set_cons_zero, List.set_cons_succ]
                refine takeH15 (v := ?_) (by kernel_rfl) (by kernel_rfl) (by kernel_rfl) (fun _ _ _ h => h) hHeld (by rfl) ?_ ?_
                rotate_left; · (intro w hSw; (try dsimp only at hSw); go_simp; try with_reducible rfl)
                try simp only [Act.put, List.setIfInBounds_toArray, List.set_cons_zero, List.set_cons_succ]
                refine callH16 (by kernel_rfl) (fun K hK => ?_)
                go_simp
                refine hK.out _ _ (⟨keepA a0, keepA a1⟩) (fun hHeld => ?_)
                clear hK K
                try simp only [Act.put, List.setIfInBounds_toArray, List.set_cons_zero, List.set_cons_succ]
                have hbA : Below wc3.heap.size wc3 (wc3.alloc (.cells #[.slice none 0 0, .slice none 0 0] 40)) := below_alloc (Nat.le_refl _) (Below.refl _ _)
                have bz : Box (wc3.alloc (.cells #[.slice none 0 0, .slice none 0 0] 40)) wc3.heap.size 40 #[.slice none 0 0, .slice none 0 0] := Box.new _ _ _
                have hlz : w3.heap.size + 2 ≤ wc3.heap.size := hlw
                replace bA := bA.on hbA; replace bG := bG.on hbA
                replace ho := ho.below hbA
                replace hoE := hoE.below hbA
                replace hoD := hoD.below hbA
                replace ho5 := ho5.below hbA
                replace ho6 := ho6.below hbA
                replace ho4 := ho4.below hbA; replace hoP := hoP.below hbA; replace hd := hd.on hbA
                replace hwC := below_then hbA hwC.size hwC
                replace hlw := Nat.le_trans hlw hbA.size
                clear hbA
                generalize (wc3.alloc (.cells #[.slice none 0 0, .slice none 0 0] 40)) = wa4 at *
                generalize wc3.heap.size = bl at *
                have a0 := bA.d0; have a1 := bA.d1
                have qz0 := bz.d0; have qz1 := bz.d1
                have qh0 := bz.hot 0; have qh1 := bz.hot 1
                refine callH17 (by kernel_rfl) (fun K hK => ?_)
                go_simp
                refine hK.out _ _ (⟨keepS (keepS a0 (by show w3.heap.size ≠ bl; omega)) (by show w3.heap.size ≠ bl; omega), keepS (keepS a1 (by show w3.heap.size ≠ bl; omega)) (by show w3.heap.size ≠ bl; omega)⟩) (fun hHeld => ?_)
                clear hK K
                try simp only [Act.put, List.setIfInBounds_toArray, List.set_cons_zero, List.set_cons_succ]
                refine takeH18 (v := ?_) (by kernel_rfl) (by kernel_rfl) (by kernel_rfl) (fun _ _ _ h => h) hHeld (by rfl) ?_ ?_
                rotate_left; · (intro w hSw; (try dsimp only at hSw); go_simp; try with_reducible rfl)
                try simp only [Act.put, List.setIfInBounds_toArray, List.set_cons_zero, List.set_cons_succ]
                refine wpAnyH_done (by kernel_rfl) ?_ _
                have hw3s := hw3.size
                go_wp2_with fail; go_meet
                refine Lib.hid ⟨bl, _, _, _, _, _, _, st, lp, rfl, rfl, HLA.out, bz.set2 _ _, (ho5.chgBox bz nel (chg2 _ _ _ _)).reads, (ho6.chgBox bz nel (chg2 _ _ _ _)).reads, (bA.far (by show w3.heap.size ≠ bl; omega) _).far (by show w3.heap.size ≠ bl; omega) _, (bG.far (by show w3.heap.size + 1 ≠ bl; omega) _).far (by show w3.heap.size + 1 ≠ bl; omega) _, (ho4.chgBox bz nel nel2 (chg2 _ _ _ _)).reads, (ho.chgBox bz nel (chg2 _ _ _ _)).reads, (hoP.chgBox bz nel nel3 (chg2 _ _ _ _)).reads, hwC.trans ((chg2 _ _ _ _).below hwC.size (fun x hx => by have h3 : x = bl := hx; omega))⟩
              · go_simp
                refine hK.out _ _ (⟨keepA a0, keepA a1⟩) (fun hHeld => ?_)
                clear hK K
                try simp only [Act.put, List.setIfInBounds_toArray, List.set_cons_zero, List.set_cons_succ]
                have hbA : Below wc2.heap.size wc2 (wc2.alloc (.cells #[.slice none 0 0, .slice none 0 0] 40)) := below_alloc (Nat.le_refl _) (Below.refl _ _)
                have bz : Box (wc2.alloc (.cells #[.slice none 0 0, .slice none 0 0] 40)) wc2.heap.size 40 #[.slice none 0 0, .slice none 0 0] := Box.new _ _ _
                have hlz : w3.heap.size + 2 ≤ wc2.heap.size := hlw
                replace bA := bA.on hbA; replace bG := bG.on hbA
                replace ho := ho.below hbA
                replace hoE := hoE.below hbA
                replace hoD := hoD.below hbA
                replace ho4 := ho4.below hbA; replace hoP := hoP.below hbA; replace hd := hd.on hbA
                replace hwC := below_then hbA hwC.size hwC
                replace hlw := Nat.le_trans hlw hbA.size
                clear hbA
                generalize (wc2.alloc (.cells #[.slice none 0 0, .slice none 0 0] 40)) = wa3 at *
                generalize wc2.heap.size = bl at *
                have a0 := bA.d0; have a1 := bA.d1
                refine callH12 (by kernel_rfl) (fun K hK => ?_)
                go_simp
                go_at_call 17
                refine (playOf _ _ _ _ _ _ _ _ _ _ _ _ z.1 z.2 pE pD vn _ _ (Nat.le_refl _) ho4.reads.ri ho4.reads.rii hoE.reads hoD.reads HF.out HAR.out HFE.out HFD.out (by have := hvx.2; omega)).mono ?_; rintro e wc3a ⟨v5, v6, st, lp, rfl, hpl, hlen, ho5, ho6, hbN⟩
                obtain ⟨A5, k5, rfl⟩ := ho5.form; obtain ⟨A6, k6, rfl⟩ := ho6.form
                replace bA := bA.on hbN; replace bG := bG.on hbN
                replace ho := ho.below hbN
                replace hoE := hoE.below hbN
                replace hoD := hoD.below hbN
                replace ho4 := ho4.below hbN; replace hoP := hoP.below hbN; replace hd := hd.on hbN
                replace bz := bz.on hbN
                replace hwC := below_then hbN hwC.size hwC
                replace hlw := Nat.le_trans hlw hbN.size
                clear hbN
                have HLA := Lib.hid (play_lasso (full_step HF.out HFE.out HFD.out) (by have := hvx.2; omega) hpl (by have h1 := hlen.1; have h2 := hlen.2; omega)); clear hpl
                have a0 := bA.d0; have a1 := bA.d1
                go_wp2_with fail
                refine hK.out _ _ (⟨a0, a1⟩) (fun hHeld => ?_)
                clear hK K
                try simp only [Act.put, List.setIfInBounds_toArray, List.set_cons_zero, List.set_cons_succ]
                refine takeH13 (v := ?_) (by kernel_rfl) (by kernel_rfl) (by kernel_rfl) (fun _ _ _ h => h) hHeld (by rfl) ?_ ?_
                rotate_left; · (intro w hSw; (try dsimp only at hSw); go_simp; try with_reducible rfl)
                try simp only [Act.put, List.setIfInBounds_toArray, List.set_cons_zero, List.set_cons_succ]
                refine takeH14 (v := ?_) (by kernel_rfl) (by kernel_rfl) (by kernel_rfl) (fun _ _ _ h => h) hHeld (by rfl) ?_ ?_
                rotate_left; · (intro w hSw; (try dsimp only at hSw); go_simp; try with_reducible rfl)
                try simp only [Act.put, List.setIfInBounds_toArray, List.set_cons_zero, List.set_cons_succ]
                refine takeH15 (v := ?_) (by kernel_rfl) (by kernel_rfl) (by kernel_rfl) (fun _ _ _ h => h) hHeld (by rfl) ?_ ?_
                rotate_left; · (intro w hSw; (try dsimp only at hSw); go_simp; try with_reducible rfl)
                try simp only [Act.put, List.setIfInBounds_toArray, List.set_cons_zero, List.set_cons_succ]
                have qz0 := bz.d0; have qz1 := bz.d1
                have qh0 := bz.hot 0; have qh1 := bz.hot 1
                refine callH17 (by kernel_rfl) (fun K hK => ?_)
                go_simp
                refine hK.out _ _ (⟨keepS (keepS a0 (by show w3.heap.size ≠ bl; omega)) (by show w3.heap.size ≠ bl; omega), keepS (keepS a1 (by show w3.heap.size ≠ bl; omega)) (by show w3.heap.size ≠ bl; omega)⟩) (fun hHeld => ?_)
                clear hK K
                try simp only [Act.put, List.setIfInBounds_toArray, List.set_cons_zero, List.set_cons_succ]
                refine takeH18 (v := ?_) (by kernel_rfl) (by kernel_rfl) (by kernel_rfl) (fun _ _ _ h => h) hHeld (by rfl) ?_ ?_
                rotate_left; · (intro w hSw; (try dsimp only at hSw); go_simp; try with_reducible rfl)
                try simp only [Act.put, List.setIfInBounds_toArray, List.set_cons_zero, List.set_cons_succ]
                refine wpAnyH_done (by kernel_rfl) ?_ _
                have hw3s := hw3.size
                go_wp2_with fail; go_meet
                refine Lib.hid ⟨bl, _, _, _, _, _, _, st, lp, rfl, rfl, HLA.out, bz.set2 _ _, (ho5.chgBox bz nel (chg2 _ _ _ _)).reads, (ho6.chgBox bz nel (chg2 _ _ _ _)).reads, (bA.far (by show w3.heap.size ≠ bl; omega) _).far (by show w3.heap.size ≠ bl; omega) _, (bG.far (by show w3.heap.size + 1 ≠ bl; omega) _).far (by show w3.heap.size + 1 ≠ bl; omega) _, (ho4.chgBox bz nel nel2 (chg2 _ _ _ _)).reads, (ho.chgBox bz nel (chg2 _ _ _ _)).reads, (hoP.chgBox bz nel nel3 (chg2 _ _ _ _)).reads, hwC.trans ((chg2 _ _ _ _).below hwC.size (fun x hx => by have h3 : x = bl := hx; omega))⟩
            · go_simp
              refine hK.out _ _ (⟨keepA a0, keepA a1⟩) (fun hHeld => ?_)
              clear hK K
              try simp only [Act.put, List.setIfInBounds_toArray, List.set_cons_zero, List.set_cons_succ]
              have hbA : Below wc1.heap.size wc1 (wc1.alloc (.cells #[.slice none 0 0, .slice none 0 0] 40)) := below_alloc (Nat.le_refl _) (Below.refl _ _)
              have bz : Box (wc1.alloc (.cells #[.slice none 0 0, .slice none 0 0] 40)) wc1.heap.size 40 #[.slice none 0 0, .slice none 0 0] := Box.new _ _ _
              have hlz : w3.heap.size + 2 ≤ wc1.heap.size := hlw
              replace bA := bA.on hbA; replace bG := bG.on hbA
              replace ho := ho.below hbA
              replace hoE := hoE.below hbA
              replace hoD := hoD.below hbA
              replace ho4 := ho4.below hbA; replace hoP := hoP.below hbA; replace hd := hd.on hbA
              replace hwC := below_then hbA hwC.size hwC
              replace hlw := Nat.le_trans hlw hbA.size
              clear hbA
              generalize (wc1.alloc (.cells #[.slice none 0 0, .slice none 0 0] 40)) = wa2 at *
              generalize wc1.heap.size = bl at *
              have a0 := bA.d0; have a1 := bA.d1
              refine callH11 (by kernel_rfl) (fun K hK => ?_)
              go_simp
              go_at_call 14
              refine (below w1 _ b (z.1.length : Int) hd (by omega)).mono ?_; rintro e wc2a ⟨vx, rfl, hvx, hd2, hc⟩
              obtain ⟨vn, rfl⟩ := Int.eq_ofNat_of_zero_le hvx.1
              have tA : Box _ w3.heap.size 30 #[.slice A0 z.1.length c0, .slice A1 z.2.length c1] := (hc.block _ bA.lt (fun e => by have h3 : w3.heap.size = b := e; omega)).trans bA
              have tG : Box _ (w3.heap.size + 1) 33 #[.slice A0 z.1.length c0, .slice A1 z.2.length c1, (.slice Ap pr.length cp)] := (hc.block _ bG.lt (fun e => by have h3 : w3.heap.size + 1 = b := e; omega)).trans bG
              clear bA bG; have bA := tA; have bG := tG; clear tA tG
              replace ho := ho.chg hc (fun y hy e => by have h3 : y = b := e; have := (ho.lt y hy).1; omega)
              replace hoE := hoE.chg hc (fun y hy e => by have h3 : y = b := e; have := (hoE.lt y hy).1; omega)
              replace hoD := hoD.chg hc (fun y hy e => by have h3 : y = b := e; have := (hoD.lt y hy).1; omega)
              replace ho4 := ho4.chg hc (fun y hy => by have h3 : y = b := hy; omega)
              replace hoP := hoP.chg hc (fun y hy => by have h3 : y = b := hy; omega)
              have tz : Box _ bl 40 #[.slice none 0 0, .slice none 0 0] := (hc.block _ bz.lt (fun e => by have h3 : bl = b := e; omega)).trans bz; clear bz; have bz := tz; clear tz
              replace hwC := hwC.trans (hc.below hwC.size (fun x hx => by have h3 : x = b := hx; omega))
              replace hlw := Nat.le_trans hlw hc.size
              clear hd; have hd := hd2; clear hd2 hc
              have a0 := bA.d0; have a1 := bA.d1
              go_wp2_with fail
              refine hK.out _ _ (⟨a0, a1⟩) (fun hHeld => ?_)
              clear hK K
              try simp only [Act.put, List.setIfInBounds_toArray, List.set_cons_zero, List.set_cons_succ]
              refine callH12 (by kernel_rfl) (fun K hK => ?_)
              go_simp
              go_at_call 17
              refine (playOf _ _ _ _ _ _ _ _ _ _ _ _ z.1 z.2 pE pD vn _ _ (Nat.le_refl _) ho4.reads.ri ho4.reads.rii hoE.reads hoD.reads HF.out HAR.out HFE.out HFD.out (by have := hvx.2; omega)).mono ?_; rintro e wc3a ⟨v5, v6, st, lp, rfl, hpl, hlen, ho5, ho6, hbN⟩
              obtain ⟨A5, k5, rfl⟩ := ho5.form; obtain ⟨A6, k6, rfl⟩ := ho6.form
              replace bA := bA.on hbN; replace bG := bG.on hbN
              replace ho := ho.below hbN
              replace hoE := hoE.below hbN
              replace hoD := hoD.below hbN
              replace ho4 := ho4.below hbN; replace hoP := hoP.below hbN; replace hd := hd.on hbN
              replace bz := bz.on hbN
              replace hwC := below_then hbN hwC.size hwC
              replace hlw := Nat.le_trans hlw hbN.size
              clear hbN
              have HLA := Lib.hid (play_lasso (full_step HF.out HFE.out HFD.out) (by have := hvx.2; omega) hpl (by have h1 := hlen.1; have h2 := hlen.2; omega)); clear hpl
              have a0 := bA.d0; have a1 := bA.d1
              go_wp2_with fail
              refine hK.out _ _ (⟨a0, a1⟩) (fun hHeld => ?_)
              clear hK K
              try simp only [Act.put, List.setIfInBounds_toArray, List.set_cons_zero, List.set_cons_succ]
              refine takeH13 (v := ?_) (by kernel_rfl) (by kernel_rfl) (by kernel_rfl) (fun _ _ _ h => h) hHeld (by rfl) ?_ ?_
              rotate_left; · (intro w hSw; (try dsimp only at hSw); go_simp; try with_reducible rfl)
              try simp only [Act.put, List.setIfInBounds_toArray, List.set_cons_zero, List.set_cons_succ]
              refine takeH14 (v := ?_) (by kernel_rfl) (by kernel_rfl) (by kernel_rfl) (fun _ _ _ h => h) hHeld (by rfl) ?_ ?_
              rotate_left; · (intro w hSw; (try dsimp only at hSw); go_simp; try with_reducible rfl)
              try simp only [Act.put, List.setIfInBounds_toArray, List.set_cons_zero, List.set_cons_succ]
              refine takeH15 (v := ?_) (by kernel_rfl) (by kernel_rfl) (by kernel_rfl) (fun _ _ _ h => h) hHeld (by rfl) ?_ ?_
              rotate_left; · (intro w hSw; (try dsimp only at hSw); go_simp; try with_reducible rfl)
              try simp only [Act.put, List.setIfInBounds_toArray, List.set_cons_zero, List.set_cons_succ]
              have qz0 := bz.d0; have qz1 := bz.d1
              have qh0 := bz.hot 0; have qh1 := bz.hot 1
              refine callH17 (by kernel_rfl) (fun K hK => ?_)
              go_simp
              refine hK.out _ _ (⟨keepS (keepS a0 (by show w3.heap.size ≠ bl; omega)) (by show w3.heap.size ≠ bl; omega), keepS (keepS a1 (by show w3.heap.size ≠ bl; omega)) (by show w3.heap.size ≠ bl; omega)⟩) (fun hHeld => ?_)
              clear hK K
              try simp only [Act.put, List.setIfInBounds_toArray, List.set_cons_zero, List.set_cons_succ]
              refine takeH18 (v := ?_) (by kernel_rfl) (by kernel_rfl) (by kernel_rfl) (fun _ _ _ h => h) hHeld (by rfl) ?_ ?_
              rotate_left; · (intro w hSw; (try dsimp only at hSw); go_simp; try with_reducible rfl)
              try simp only [Act.put, List.setIfInBounds_toArray, List.set_cons_zero, List.set_cons_succ]
              refine wpAnyH_done (by kernel_rfl) ?_ _
              have hw3s := hw3.size
              go_wp2_with fail; go_meet
              refine Lib.hid ⟨bl, _, _, _, _, _, _, st, lp, rfl, rfl, HLA.out, bz.set2 _ _, (ho5.chgBox bz nel (chg2 _ _ _ _)).reads, (ho6.chgBox bz nel (chg2 _ _ _ _)).reads, (bA.far (by show w3.heap.size ≠ bl; omega) _).far (by show w3.heap.size ≠ bl; omega) _, (bG.far (by show w3.heap.size + 1 ≠ bl; omega) _).far (by show w3.heap.size + 1 ≠ bl; omega) _, (ho4.chgBox bz nel nel2 (chg2 _ _ _ _)).reads, (ho.chgBox bz nel (chg2 _ _ _ _)).reads, (hoP.chgBox bz nel nel3 (chg2 _ _ _ _)).reads, hwC.trans ((chg2 _ _ _ _).below hwC.size (fun x hx => by have h3 : x = bl := hx; omega))⟩
          · go_simp
            refine hK.out _ _ (⟨keepA a0, keepA a1⟩) (fun hHeld => ?_)
            clear hK K
            try simp only [Act.put, List.setIfInBounds_toArray, List.set_cons_zero, List.set_cons_succ]
            have hbA : Below wc0.heap.size wc0 (wc0.alloc (.cells #[.slice none 0 0, .slice none 0 0] 40)) := below_alloc (Nat.le_refl _) (Below.refl _ _)
            have bz : Box (wc0.alloc (.cells #[.slice none 0 0, .slice none 0 0] 40)) wc0.heap.size 40 #[.slice none 0 0, .slice none 0 0] := Box.new _ _ _
            have hlz : w3.heap.size + 2 ≤ wc0.heap.size := hlw
            replace bA := bA.on hbA; replace bG := bG.on hbA
            replace ho := ho.below hbA
            replace hoE := hoE.below hbA
            replace ho4 := ho4.below hbA; replace hoP := hoP.below hbA; replace hd := hd.on hbA
            replace hwC := below_then hbA hwC.size hwC
            replace hlw := Nat.le_trans hlw hbA.size
            clear hbA
            generalize (wc0.alloc (.cells #[.slice none 0 0, .slice none 0 0] 40)) = wa1 at *
            generalize wc0.heap.size = bl at *
            have a0 := bA.d0; have a1 := bA.d1
            refine callH6 (by kernel_rfl) (fun K hK => ?_)
            go_simp
            go_at_call 18
            refine (w6Plan _ _ z 1 w1 _ b _ hd ho4 (by omega) HF.out).mono ?_; rintro e wc1a ⟨vD, pD, rfl, hfD, hoD, hdD, hc⟩
            obtain ⟨AD, kD, rfl⟩ := hoD.form
            have hsD := hlw
            have tA : Box _ w3.heap.size 30 #[.slice A0 z.1.length c0, .slice A1 z.2.length c1] := (hc.block _ bA.lt (fun e => by have h3 : w3.heap.size = b := e; omega)).trans bA
            have tG : Box _ (w3.heap.size + 1) 33 #[.slice A0 z.1.length c0, .slice A1 z.2.length c1, (.slice Ap pr.length cp)] := (hc.block _ bG.lt (fun e => by have h3 : w3.heap.size + 1 = b := e; omega)).trans bG
            clear bA bG; have bA := tA; have bG := tG; clear tA tG
            replace ho := ho.chg hc (fun y hy e => by have h3 : y = b := e; have := (ho.lt y hy).1; omega)
            replace hoE := hoE.chg hc (fun y hy e => by have h3 : y = b := e; have := (hoE.lt y hy).1; omega)
            replace ho4 := ho4.chg hc (fun y hy => by have h3 : y = b := hy; omega)
            replace hoP := hoP.chg hc (fun y hy => by have h3 : y = b := hy; omega)
            have tz : Box _ bl 40 #[.slice none 0 0, .slice none 0 0] := (hc.block _ bz.lt (fun e => by have h3 : bl = b := e; omega)).trans bz; clear bz; have bz := tz; clear tz
            replace hwC := hwC.trans (hc.below hwC.size (fun x hx => by have h3 : x = b := hx; omega))
            replace hlw := Nat.le_trans hlw hc.size
            clear hd; have hd := hdD; clear hdD hc
            have HFD := Lib.hid hfD; clear hfD
            have a0 := bA.d0; have a1 := bA.d1
            go_wp2_with fail
            refine hK.out _ _ (⟨a0, a1⟩) (fun hHeld => ?_)
            clear hK K
            try simp only [Act.put, List.setIfInBounds_toArray, List.set_cons_zero, List.set_cons_succ]
            refine callH11 (by kernel_rfl) (fun K hK => ?_)
            go_simp
            go_at_call 14
            refine (below w1 _ b (z.1.length : Int) hd (by omega)).mono ?_; rintro e wc2a ⟨vx, rfl, hvx, hd2, hc⟩
            obtain ⟨vn, rfl⟩ := Int.eq_ofNat_of_zero_le hvx.1
            have tA : Box _ w3.heap.size 30 #[.slice A0 z.1.length c0, .slice A1 z.2.length c1] := (hc.block _ bA.lt (fun e => by have h3 : w3.heap.size = b := e; omega)).trans bA
            have tG : Box _ (w3.heap.size + 1) 33 #[.slice A0 z.1.length c0, .slice A1 z.2.length c1, (.slice Ap pr.length cp)] := (hc.block _ bG.lt (fun e => by have h3 : w3.heap.size + 1 = b := e; omega)).trans bG
            clear bA bG; have bA := tA; have bG := tG; clear tA tG
            replace ho := ho.chg hc (fun y hy e => by have h3 : y = b := e; have := (ho.lt y hy).1; omega)
            replace hoE := hoE.chg hc (fun y hy e => by have h3 : y = b := e; have := (hoE.lt y hy).1; omega)
            replace hoD := hoD.chg hc (fun y hy e => by have h3 : y = b := e; have := (hoD.lt y hy).1; omega)
            replace ho4 := ho4.chg hc (fun y hy => by have h3 : y = b := hy; omega)
            replace hoP := hoP.chg hc (fun y hy => by have h3 : y = b := hy; omega)
            have tz : Box _ bl 40 #[.slice none 0 0, .slice none 0 0] := (hc.block _ bz.lt (fun e => by have h3 : bl = b := e; omega)).trans bz; clear bz; have bz := tz; clear tz
            replace hwC := hwC.trans (hc.below hwC.size (fun x hx => by have h3 : x = b := hx; omega))
            replace hlw := Nat.le_trans hlw hc.size
            clear hd; have hd := hd2; clear hd2 hc
            have a0 := bA.d0; have a1 := bA.d1
            go_wp2_with fail
            refine hK.out _ _ (⟨a0, a1⟩) (fun hHeld => ?_)
            clear hK K
            try simp only [Act.put, List.setIfInBounds_toArray, List.set_cons_zero, List.set_cons_succ]
            refine callH12 (by kernel_rfl) (fun K hK => ?_)
            go_simp
            go_at_call 17
            refine (playOf _ _ _ _ _ _ _ _ _ _ _ _ z.1 z.2 pE pD vn _ _ (Nat.le_refl _) ho4.reads.ri ho4.reads.rii hoE.reads hoD.reads HF.out HAR.out HFE.out HFD.out (by have := hvx.2; omega)).mono ?_; rintro e wc3a ⟨v5, v6, st, lp, rfl, hpl, hlen, ho5, ho6, hbN⟩
            obtain ⟨A5, k5, rfl⟩ := ho5.form; obtain ⟨A6, k6, rfl⟩ := ho6.form
            replace bA := bA.on hbN; replace bG := bG.on hbN
            replace ho := ho.below hbN
            replace hoE := hoE.below hbN
            replace hoD := hoD.below hbN
            replace ho4 := ho4.below hbN; replace hoP := hoP.below hbN; replace hd := hd.on hbN
            replace bz := bz.on hbN
            replace hwC := below_then hbN hwC.size hwC
            replace hlw := Nat.le_trans hlw hbN.size
            clear hbN
            have HLA := Lib.hid (play_lasso (full_step HF.out HFE.out HFD.out) (by have := hvx.2; omega) hpl (by have h1 := hlen.1; have h2 := hlen.2; omega)); clear hpl
            have a0 := bA.d0; have a1 := bA.d1
            go_wp2_with fail
            refine hK.out _ _ (⟨a0, a1⟩) (fun hHeld => ?_)
            clear hK K
            try simp only [Act.put, List.setIfInBounds_toArray, List.set_cons_zero, List.set_cons_succ]
            refine takeH13 (v := ?_) (by kernel_rfl) (by kernel_rfl) (by kernel_rfl) (fun _ _ _ h => h) hHeld (by rfl) ?_ ?_
            rotate_left; · (intro w hSw; (try dsimp only at hSw); go_simp; try with_reducible rfl)
            try simp only [Act.put, List.setIfInBounds_toArray, List.set_cons_zero, List.set_cons_succ]
            refine takeH14 (v := ?_) (by kernel_rfl) (by kernel_rfl) (by kernel_rfl) (fun _ _ _ h => h) hHeld (by rfl) ?_ ?_
            rotate_left; · (intro w hSw; (try dsimp only at hSw); go_simp; try with_reducible rfl)
            try simp only [Act.put, List.setIfInBounds_toArray, List.set_cons_zero, List.set_cons_succ]
            refine takeH15 (v := ?_) (by kernel_rfl) (by kernel_rfl) (by kernel_rfl) (fun _ _ _ h => h) hHeld (by rfl) ?_ ?_
            rotate_left; · (intro w hSw; (try dsimp only at hSw); go_simp; try with_reducible rfl)
            try simp only [Act.put, List.setIfInBounds_toArray, List.set_cons_zero, List.set_cons_succ]
            have qz0 := bz.d0; have qz1 := bz.d1
            have qh0 := bz.hot 0; have qh1 := bz.hot 1
            refine callH17 (by kernel_rfl) (fun K hK => ?_)
            go_simp
            refine hK.out _ _ (⟨keepS (keepS a0 (by show w3.heap.size ≠ bl; omega)) (by show w3.heap.size ≠ bl; omega), keepS (keepS a1 (by show w3.heap.size ≠ bl; omega)) (by show w3.heap.size ≠ bl; omega)⟩) (fun hHeld => ?_)
            clear hK K
            try simp only [Act.put, List.setIfInBounds_toArray, List.set_cons_zero, List.set_cons_succ]
            refine takeH18 (v := ?_) (by kernel_rfl) (by kernel_rfl) (by kernel_rfl) (fun _ _ _ h => h) hHeld (by rfl) ?_ ?_
            rotate_left; · (intro w hSw; (try dsimp only at hSw); go_simp; try with_reducible rfl)
            try simp only [Act.put, List.setIfInBounds_toArray, List.set_cons_zero, List.set_cons_succ]
            refine wpAnyH_done (by kernel_rfl) ?_ _
            have hw3s := hw3.size
            go_wp2_with fail; go_meet
            refine Lib.hid ⟨bl, _, _, _, _, _, _, st, lp, rfl, rfl, HLA.out, bz.set2 _ _, (ho5.chgBox bz nel (chg2 _ _ _ _)).reads, (ho6.chgBox bz nel (chg2 _ _ _ _)).reads, (bA.far (by show w3.heap.size ≠ bl; omega) _).far (by show w3.heap.size ≠ bl; omega) _, (bG.far (by show w3.heap.size + 1 ≠ bl; omega) _).far (by show w3.heap.size + 1 ≠ bl; omega) _, (ho4.chgBox bz nel nel2 (chg2 _ _ _ _)).reads, (ho.chgBox bz nel (chg2 _ _ _ _)).reads, (hoP.chgBox bz nel nel3 (chg2 _ _ _ _)).reads, hwC.trans ((chg2 _ _ _ _).below hwC.size (fun x hx => by have h3 : x = bl := hx; omega))⟩
        · go_simp
          refine hK.out _ _ (⟨keepA a0, keepA a1⟩) (fun hHeld => ?_)
          clear hK K
          try simp only [Act.put, List.setIfInBounds_toArray, List.set_cons_zero, List.set_cons_succ]
          have hbA : Below wD.heap.size wD (wD.alloc (.cells #[.slice none 0 0, .slice none 0 0] 40)) := below_alloc (Nat.le_refl _) (Below.refl _ _)
          have bz : Box (wD.alloc (.cells #[.slice none 0 0, .slice none 0 0] 40)) wD.heap.size 40 #[.slice none 0 0, .slice none 0 0] := Box.new _ _ _
          have hlz : w3.heap.size + 2 ≤ wD.heap.size := hlw
          replace bA := bA.on hbA; replace bG := bG.on hbA
          replace ho := ho.below hbA
          replace ho4 := ho4.below hbA; replace hoP := hoP.below hbA; replace hd := hd.on hbA
          replace hwC := below_then hbA hwC.size hwC
          replace hlw := Nat.le_trans hlw hbA.size
          clear hbA
          generalize (wD.alloc (.cells #[.slice none 0 0, .slice none 0 0] 40)) = wa0 at *
          generalize wD.heap.size = bl at *
          have a0 := bA.d0; have a1 := bA.d1
          refine callH3 (by kernel_rfl) (fun K hK => ?_)
          go_simp
          go_at_call 18
          refine (w6Plan _ _ z 0 w1 _ b _ hd ho4 (by omega) HF.out).mono ?_; rintro e wc0a ⟨vE, pE, rfl, hfE, hoE, hdE, hc⟩
          obtain ⟨AE, kE, rfl⟩ := hoE.form
          have hsE := hlw
          have tA : Box _ w3.heap.size 30 #[.slice A0 z.1.length c0, .slice A1 z.2.length c1] := (hc.block _ bA.lt (fun e => by have h3 : w3.heap.size = b := e; omega)).trans bA
          have tG : Box _ (w3.heap.size + 1) 33 #[.slice A0 z.1.length c0, .slice A1 z.2.length c1, (.slice Ap pr.length cp)] := (hc.block _ bG.lt (fun e => by have h3 : w3.heap.size + 1 = b := e; omega)).trans bG
          clear bA bG; have bA := tA; have bG := tG; clear tA tG
          replace ho := ho.chg hc (fun y hy e => by have h3 : y = b := e; have := (ho.lt y hy).1; omega)
          replace ho4 := ho4.chg hc (fun y hy => by have h3 : y = b := hy; omega)
          replace hoP := hoP.chg hc (fun y hy => by have h3 : y = b := hy; omega)
          have tz : Box _ bl 40 #[.slice none 0 0, .slice none 0 0] := (hc.block _ bz.lt (fun e => by have h3 : bl = b := e; omega)).trans bz; clear bz; have bz := tz; clear tz
          replace hwC := hwC.trans (hc.below hwC.size (fun x hx => by have h3 : x = b := hx; omega))
          replace hlw := Nat.le_trans hlw hc.size
          clear hd; have hd := hdE; clear hdE hc
          have HFE := Lib.hid hfE; clear hfE
          have a0 := bA.d0; have a1 := bA.d1
          go_wp2_with fail
          refine hK.out _ _ (⟨a0, a1⟩) (fun hHeld => ?_)
          clear hK K
          try simp only [Act.put, List.setIfInBounds_toArray, List.set_cons_zero, List.set_cons_succ]
          refine callH6 (by kernel_rfl) (fun K hK => ?_)
          go_simp
          go_at_call 18
          refine (w6Plan _ _ z 1 w1 _ b _ hd ho4 (by omega) HF.out).mono ?_; rintro e wc1a ⟨vD, pD, rfl, hfD, hoD, hdD, hc⟩
          obtain ⟨AD, kD, rfl⟩ := hoD.form
          have hsD := hlw
          have tA : Box _ w3.heap.size 30 #[.slice A0 z.1.length c0, .slice A1 z.2.length c1] := (hc.block _ bA.lt (fun e => by have h3 : w3.heap.size = b := e; omega)).trans bA
          have tG : Box _ (w3.heap.size + 1) 33 #[.slice A0 z.1.length c0, .slice A1 z.2.length c1, (.slice Ap pr.length cp)] := (hc.block _ bG.lt (fun e => by have h3 : w3.heap.size + 1 = b := e; omega)).trans bG
          clear bA bG; have bA := tA; have bG := tG; clear tA tG
          replace ho := ho.chg hc (fun y hy e => by have h3 : y = b := e; have := (ho.lt y hy).1; omega)
          replace hoE := hoE.chg hc (fun y hy e => by have h3 : y = b := e; have := (hoE.lt y hy).1; omega)
          replace ho4 := ho4.chg hc (fun y hy => by have h3 : y = b := hy; omega)
          replace hoP := hoP.chg hc (fun y hy => by have h3 : y = b := hy; omega)
          have tz : Box _ bl 40 #[.slice none 0 0, .slice none 0 0] := (hc.block _ bz.lt (fun e => by have h3 : bl = b := e; omega)).trans bz; clear bz; have bz := tz; clear tz
          replace hwC := hwC.trans (hc.below hwC.size (fun x hx => by have h3 : x = b := hx; omega))
          replace hlw := Nat.le_trans hlw hc.size
          clear hd; have hd := hdD; clear hdD hc
          have HFD := Lib.hid hfD; clear hfD
          have a0 := bA.d0; have a1 := bA.d1
          go_wp2_with fail
          refine hK.out _ _ (⟨a0, a1⟩) (fun hHeld => ?_)
          clear hK K
          try simp only [Act.put, List.setIfInBounds_toArray, List.set_cons_zero, List.set_cons_succ]
          refine callH11 (by kernel_rfl) (fun K hK => ?_)
          go_simp
          go_at_call 14
          refine (below w1 _ b (z.1.length : Int) hd (by omega)).mono ?_; rintro e wc2a ⟨vx, rfl, hvx, hd2, hc⟩
          obtain ⟨vn, rfl⟩ := Int.eq_ofNat_of_zero_le hvx.1
          have tA : Box _ w3.heap.size 30 #[.slice A0 z.1.length c0, .slice A1 z.2.length c1] := (hc.block _ bA.lt (fun e => by have h3 : w3.heap.size = b := e; omega)).trans bA
          have tG : Box _ (w3.heap.size + 1) 33 #[.slice A0 z.1.length c0, .slice A1 z.2.length c1, (.slice Ap pr.length cp)] := (hc.block _ bG.lt (fun e => by have h3 : w3.heap.size + 1 = b := e; omega)).trans bG
          clear bA bG; have bA := tA; have bG := tG; clear tA tG
          replace ho := ho.chg hc (fun y hy e => by have h3 : y = b := e; have := (ho.lt y hy).1; omega)
          replace hoE := hoE.chg hc (fun y hy e => by have h3 : y = b := e; have := (hoE.lt y hy).1; omega)
          replace hoD := hoD.chg hc (fun y hy e => by have h3 : y = b := e; have := (hoD.lt y hy).1; omega)
          replace ho4 := ho4.chg hc (fun y hy => by have h3 : y = b := hy; omega)
          replace hoP := hoP.chg hc (fun y hy => by have h3 : y = b := hy; omega)
          have tz : Box _ bl 40 #[.slice none 0 0, .slice none 0 0] := (hc.block _ bz.lt (fun e => by have h3 : bl = b := e; omega)).trans bz; clear bz; have bz := tz; clear tz
          replace hwC := hwC.trans (hc.below hwC.size (fun x hx => by have h3 : x = b := hx; omega))
          replace hlw := Nat.le_trans hlw hc.size
          clear hd; have hd := hd2; clear hd2 hc
          have a0 := bA.d0; have a1 := bA.d1
          go_wp2_with fail
          refine hK.out _ _ (⟨a0, a1⟩) (fun hHeld => ?_)
          clear hK K
          try simp only [Act.put, List.setIfInBounds_toArray, List.set_cons_zero, List.set_cons_succ]
          refine callH12 (by kernel_rfl) (fun K hK => ?_)
          go_simp
          go_at_call 17
          refine (playOf _ _ _ _ _ _ _ _ _ _ _ _ z.1 z.2 pE pD vn _ _ (Nat.le_refl _) ho4.reads.ri ho4.reads.rii hoE.reads hoD.reads HF.out HAR.out HFE.out HFD.out (by have := hvx.2; omega)).mono ?_; rintro e wc3a ⟨v5, v6, st, lp, rfl, hpl, hlen, ho5, ho6, hbN⟩
          obtain ⟨A5, k5, rfl⟩ := ho5.form; obtain ⟨A6, k6, rfl⟩ := ho6.form
          replace bA := bA.on hbN; replace bG := bG.on hbN
          replace ho := ho.below hbN
          replace hoE := hoE.below hbN
          replace hoD := hoD.below hbN
          replace ho4 := ho4.below hbN; replace hoP := hoP.below hbN; replace hd := hd.on hbN
          replace bz := bz.on hbN
          replace hwC := below_then hbN hwC.size hwC
          replace hlw := Nat.le_trans hlw hbN.size
          clear hbN
          have HLA := Lib.hid (play_lasso (full_step HF.out HFE.out HFD.out) (by have := hvx.2; omega) hpl (by have h1 := hlen.1; have h2 := hlen.2; omega)); clear hpl
          have a0 := bA.d0; have a1 := bA.d1
          go_wp2_with fail
          refine hK.out _ _ (⟨a0, a1⟩) (fun hHeld => ?_)
          clear hK K
          try simp only [Act.put, List.setIfInBounds_toArray, List.set_cons_zero, List.set_cons_succ]
          refine takeH13 (v := ?_) (by kernel_rfl) (by kernel_rfl) (by kernel_rfl) (fun _ _ _ h => h) hHeld (by rfl) ?_ ?_
          rotate_left; · (intro w hSw; (try dsimp only at hSw); go_simp; try with_reducible rfl)
          try simp only [Act.put, List.setIfInBounds_toArray, List.set_cons_zero, List.set_cons_succ]
          refine takeH14 (v := ?_) (by kernel_rfl) (by kernel_rfl) (by kernel_rfl) (fun _ _ _ h => h) hHeld (by rfl) ?_ ?_
          rotate_left; · (intro w hSw; (try dsimp only at hSw); go_simp; try with_reducible rfl)
          try simp only [Act.put, List.setIfInBounds_toArray, List.set_cons_zero, List.set_cons_succ]
          refine takeH15 (v := ?_) (by kernel_rfl) (by kernel_rfl) (by kernel_rfl) (fun _ _ _ h => h) hHeld (by rfl) ?_ ?_
          rotate_left; · (intro w hSw; (try dsimp only at hSw); go_simp; try with_reducible rfl)
          try simp only [Act.put, List.setIfInBounds_toArray, List.set_cons_zero, List.set_cons_succ]
          have qz0 := bz.d0; have qz1 := bz.d1
          have qh0 := bz.hot 0; have qh1 := bz.hot 1
          refine callH17 (by kernel_rfl) (fun K hK => ?_)
          go_simp
          refine hK.out _ _ (⟨keepS (keepS a0 (by show w3.heap.size ≠ bl; omega)) (by show w3.heap.size ≠ bl; omega), keepS (keepS a1 (by show w3.heap.size ≠ bl; omega)) (by show w3.heap.size ≠ bl; omega)⟩) (fun hHeld => ?_)
          clear hK K
          try simp only [Act.put, List.setIfInBounds_toArray, List.set_cons_zero, List.set_cons_succ]
          refine takeH18 (v := ?_) (by kernel_rfl) (by kernel_rfl) (by kernel_rfl) (fun _ _ _ h => h) hHeld (by rfl) ?_ ?_
          rotate_left; · (intro w hSw; (try dsimp only at hSw); go_simp; try with_reducible rfl)
          try simp only [Act.put, List.setIfInBounds_toArray, List.set_cons_zero, List.set_cons_succ]
          refine wpAnyH_done (by kernel_rfl) ?_ _
          have hw3s := hw3.size
          go_wp2_with fail; go_meet
          refine Lib.hid ⟨bl, _, _, _, _, _, _, st, lp, rfl, rfl, HLA.out, bz.set2 _ _, (ho5.chgBox bz nel (chg2 _ _ _ _)).reads, (ho6.chgBox bz nel (chg2 _ _ _ _)).reads, (bA.far (by show w3.heap.size ≠ bl; omega) _).far (by show w3.heap.size ≠ bl; omega) _, (bG.far (by show w3.heap.size + 1 ≠ bl; omega) _).far (by show w3.heap.size + 1 ≠ bl; omega) _, (ho4.chgBox bz nel nel2 (chg2 _ _ _ _)).reads, (ho.chgBox bz nel (chg2 _ _ _ _)).reads, (hoP.chgBox bz nel nel3 (chg2 _ _ _ _)).reads, hwC.trans ((chg2 _ _ _ _).below hwC.size (fun x hx => by have h3 : x = bl := hx; omega))⟩
      case rest =>
        obtain ⟨bl, S, L, ms, ds, ml, dl, st, lp, rfl, rfl, hLA, bz, rS, rL, cA, cG, hRA, hRP, hRQ, hwz⟩ := hcut.out
        clear hcut bA bG hd ho ho4 hoP hw12 hlw12 a0 a1
        have bA := cA; have bG := cG; clear cA cG
        generalize wc = wz at *
        have HLA := Lib.hid hLA; clear hLA
        have HPR2 := Lib.hid (show ∀ k, k < lp.length → 0 ≤ gi lp k ∧ gi lp k < (z.1.length : Int) from las_loop HLA.out)
        have HL := Lib.hid (show lasW z (ppS pr 20) (st, lp) = ((brokenL (ppS pr 20) lp).length == 0) by unfold lasW; rw [lasB_e HAR.out HLA.out, ppS_pairs HS8.out (by have := HN.out; omega)]; rfl)
        have HM := Lib.hid (show metW (ppS pr 20) (metUp lp z.1.length) = ((brokenL (ppS pr 20) lp).length == 0) by unfold metW okPM; rw [ppS_pairs HS8.out (by have := HN.out; omega), met_set lp (by omega), met_broken HPR2.out]; rfl)
        have HPL2 := Lib.hid (parity_law (pr := pr) (lp := lp) (fun v hv => by have h4 := HPR.out v (by have := HN.out; omega); omega) (lasE_1 (a := z) HLA.out) (fun k hk => by have := HPR2.out k hk; have := HN.out; omega))
        have a0 := bA.d0; have a1 := bA.d1; have g0 := bG.c0; have g1 := bG.c1; have g2 := bG.c2; have y0 := bz.d0; have y1 := bz.d1
        by_cases hbk : (brokenL (ppS pr 20) lp).length = 0
        · have EL := Lib.hid (show lasW z (ppS pr 20) (st, lp) = true by rw [HL.out]; simpa using hbk)
          have EM := Lib.hid (show metW (ppS pr 20) (metUp lp z.1.length) = true by rw [HM.out]; simpa using hbk)
          have e9 : (topW pr lp lp.length % 2 == 0) = true := by simpa using HPL2.out.1 hbk
          clear hbk
          go_wp2_with fail
          refine wp_region_held_drew (S := (fun w' => w'.cell? ⟨w3.heap.size, 0, none⟩ = some (.slice A0 z.1.length c0) ∧ w'.cell? ⟨w3.heap.size, 1, none⟩ = some (.slice A1 z.2.length c1) ∧ w'.cell? ⟨w3.heap.size + 1, 0, none⟩ = some (.slice A0 z.1.length c0) ∧ w'.cell? ⟨w3.heap.size + 1, 1, none⟩ = some (.slice A1 z.2.length c1) ∧ w'.cell? ⟨w3.heap.size + 1, 2, none⟩ = some (.slice Ap pr.length cp) ∧ w'.cell? ⟨bl, 0, none⟩ = some (.slice S ms ds) ∧ w'.cell? ⟨bl, 1, none⟩ = some (.slice L ml dl))) (by kernel_rfl) ⟨a0, a1, g0, g1, g2, y0, y1⟩ (fun hHeld => ?_)
          replace hwz := Below.drew hwz
          replace bA : Box wz.drew _ _ _ := bA; replace bG : Box wz.drew _ _ _ := bG; replace bz : Box wz.drew _ _ _ := bz
          replace hRA := hRA.keep (keeps_below (Below.drew (Below.refl wz.heap.size wz))); replace hRP := hRP.keep (keeps_below (Below.drew (Below.refl wz.heap.size wz))); replace hRQ := hRQ.keep (keeps_below (Below.drew (Below.refl wz.heap.size wz))); replace rS := rS.keep (keeps_below (Below.drew (Below.refl wz.heap.size wz))); replace rL := rL.keep (keeps_below (Below.drew (Below.refl wz.heap.size wz)))
          clear a0 a1 g0 g1 g2 y0 y1
          generalize wz.drew = wy at *
          have a0 := bA.d0; have a1 := bA.d1; have g0 := bG.c0; have g1 := bG.c1; have g2 := bG.c2; have y0 := bz.d0; have y1 := bz.d1
          refine takeH0 (v := ?_) (by kernel_rfl) (by kernel_rfl) (by kernel_rfl) (fun _ _ _ h => h) hHeld (by rfl) ?_ ?_
          rotate_left; · (intro w hSw; (try dsimp only at hSw); go_simp; try with_reducible rfl)
          try simp only [Act.put, List.setIfInBounds_toArray, List.set_cons_zero, List.set_cons_succ]
          refine takeH1 (v := ?_) (by kernel_rfl) (by kernel_rfl) (by kernel_rfl) (fun _ _ _ h => h) hHeld (by rfl) ?_ ?_
          rotate_left; · (intro w hSw; (try dsimp only at hSw); go_simp; try with_reducible rfl)
          try simp only [Act.put, List.setIfInBounds_toArray, List.set_cons_zero, List.set_cons_succ]
          refine takeH4 (v := ?_) (by kernel_rfl) (by kernel_rfl) (by kernel_rfl) (fun _ _ _ h => h) hHeld (by rfl) ?_ ?_
          rotate_left; · (intro w hSw; (try dsimp only at hSw); go_simp; try with_reducible rfl)
          try simp only [Act.put, List.setIfInBounds_toArray, List.set_cons_zero, List.set_cons_succ]
          refine takeH5 (v := ?_) (by kernel_rfl) (by kernel_rfl) (by kernel_rfl) (fun _ _ _ h => h) hHeld (by rfl) ?_ ?_
          rotate_left; · (intro w hSw; (try dsimp only at hSw); go_simp; try with_reducible rfl)
          try simp only [Act.put, List.setIfInBounds_toArray, List.set_cons_zero, List.set_cons_succ]
          refine takeH6 (v := ?_) (by kernel_rfl) (by kernel_rfl) (by kernel_rfl) (fun _ _ _ h => h) hHeld (by rfl) ?_ ?_
          rotate_left; · (intro w hSw; (try dsimp only at hSw); go_simp; try with_reducible rfl)
          try simp only [Act.put, List.setIfInBounds_toArray, List.set_cons_zero, List.set_cons_succ]
          refine callH2 (by kernel_rfl) (fun K hK => ?_)
          go_simp
          go_at_call 19
          refine (implPlayWon _ _ _ _ _ (z.1, z.2, pr) (st, lp) _ _ (Nat.le_refl _) (RPv.of hRA.ri hRA.rii hRP) (RTv.of rS rL) HPB.out HLA.out).mono ?_; rintro e x1 ⟨rfl, hx1⟩
          replace bA := bA.on hx1; replace bG := bG.on hx1; replace bz := bz.on hx1
          replace hRA := hRA.keep (keeps_below hx1); replace hRP := hRP.keep (keeps_below hx1); replace hRQ := hRQ.keep (keeps_below hx1); replace rS := rS.keep (keeps_below hx1); replace rL := rL.keep (keeps_below hx1)
          replace hwz := below_then hx1 hwz.size hwz
          have a0 := bA.d0; have a1 := bA.d1; have g0 := bG.c0; have g1 := bG.c1; have g2 := bG.c2; have y0 := bz.d0; have y1 := bz.d1
          go_wp2_with fail
          refine hK.out _ _ (⟨a0, a1, g0, g1, g2, y0, y1⟩) (fun hHeld => ?_)
          clear hK K
          try simp only [Act.put, List.setIfInBounds_toArray, List.set_cons_zero, List.set_cons_succ]
          refine takeH3 (v := ?_) (by kernel_rfl) (by kernel_rfl) (by kernel_rfl) (fun _ _ _ h => h) hHeld (by rfl) ?_ ?_
          rotate_left; · (intro w hSw; (try dsimp only at hSw); go_simp; try with_reducible rfl)
          try simp only [Act.put, List.setIfInBounds_toArray, List.set_cons_zero, List.set_cons_succ]
          refine callH7 (by kernel_rfl) (fun K hK => ?_)
          go_simp
          go_at_call 20
          refine (implLassoWell _ _ z _ _ _ (ppS pr 20) _ _ (st, lp) _ _ (Nat.le_refl _) hRA hRQ (RTv.of rS rL)).mono ?_; rintro e x2 ⟨rfl, hx2⟩
          rw [EL.out]
          replace bA := bA.on hx2; replace bG := bG.on hx2; replace bz := bz.on hx2
          replace hRA := hRA.keep (keeps_below hx2); replace hRP := hRP.keep (keeps_below hx2); replace hRQ := hRQ.keep (keeps_below hx2); replace rS := rS.keep (keeps_below hx2); replace rL := rL.keep (keeps_below hx2)
          replace hwz := below_then hx2 hwz.size hwz
          have a0 := bA.d0; have a1 := bA.d1; have g0 := bG.c0; have g1 := bG.c1; have g2 := bG.c2; have y0 := bz.d0; have y1 := bz.d1
          go_wp2_with fail
          refine hK.out _ _ (⟨a0, a1, g0, g1, g2, y0, y1⟩) (fun hHeld => ?_)
          clear hK K
          try simp only [Act.put, List.setIfInBounds_toArray, List.set_cons_zero, List.set_cons_succ]
          refine takeH8 (v := ?_) (by kernel_rfl) (by kernel_rfl) (by kernel_rfl) (fun _ _ _ h => h) hHeld (by rfl) ?_ ?_
          rotate_left; · (intro w hSw; (try dsimp only at hSw); go_simp; try with_reducible rfl)
          try simp only [Act.put, List.setIfInBounds_toArray, List.set_cons_zero, List.set_cons_succ]
          refine takeH9 (v := ?_) (by kernel_rfl) (by kernel_rfl) (by kernel_rfl) (fun _ _ _ h => h) hHeld (by rfl) ?_ ?_
          rotate_left; · (intro w hSw; (try dsimp only at hSw); go_simp; try with_reducible rfl)
          try simp only [Act.put, List.setIfInBounds_toArray, List.set_cons_zero, List.set_cons_succ]
          refine takeH10 (v := ?_) (by kernel_rfl) (by kernel_rfl) (by kernel_rfl) (fun _ _ _ h => h) hHeld (by rfl) ?_ ?_
          rotate_left; · (intro w hSw; (try dsimp only at hSw); go_simp; try with_reducible rfl)
          try simp only [Act.put, List.setIfInBounds_toArray, List.set_cons_zero, List.set_cons_succ]
          refine takeH11 (v := ?_) (by kernel_rfl) (by kernel_rfl) (by kernel_rfl) (fun _ _ _ h => h) hHeld (by rfl) ?_ ?_
          rotate_left; · (intro w hSw; (try dsimp only at hSw); go_simp; try with_reducible rfl)
          try simp only [Act.put, List.setIfInBounds_toArray, List.set_cons_zero, List.set_cons_succ]
          refine takeH12 (v := ?_) (by kernel_rfl) (by kernel_rfl) (by kernel_rfl) (fun _ _ _ h => h) hHeld (by rfl) ?_ ?_
          rotate_left; · (intro w hSw; (try dsimp only at hSw); go_simp; try with_reducible rfl)
          try simp only [Act.put, List.setIfInBounds_toArray, List.set_cons_zero, List.set_cons_succ]
          refine takeH14 (v := ?_) (by kernel_rfl) (by kernel_rfl) (by kernel_rfl) (fun _ _ _ h => h) hHeld (by rfl) ?_ ?_
          rotate_left; · (intro w hSw; (try dsimp only at hSw); go_simp; try with_reducible rfl)
          try simp only [Act.put, List.setIfInBounds_toArray, List.set_cons_zero, List.set_cons_succ]
          refine takeH15 (v := ?_) (by kernel_rfl) (by kernel_rfl) (by kernel_rfl) (fun _ _ _ h => h) hHeld (by rfl) ?_ ?_
          rotate_left; · (intro w hSw; (try dsimp only at hSw); go_simp; try with_reducible rfl)
          try simp only [Act.put, List.setIfInBounds_toArray, List.set_cons_zero, List.set_cons_succ]
          refine takeH16 (v := ?_) (by kernel_rfl) (by kernel_rfl) (by kernel_rfl) (fun _ _ _ h => h) hHeld (by rfl) ?_ ?_
          rotate_left; · (intro w hSw; (try dsimp only at hSw); go_simp; try with_reducible rfl)
          try simp only [Act.put, List.setIfInBounds_toArray, List.set_cons_zero, List.set_cons_succ]
          refine takeH17 (v := ?_) (by kernel_rfl) (by kernel_rfl) (by kernel_rfl) (fun _ _ _ h => h) hHeld (by rfl) ?_ ?_
          rotate_left; · (intro w hSw; (try dsimp only at hSw); go_simp; try with_reducible rfl)
          try simp only [Act.put, List.setIfInBounds_toArray, List.set_cons_zero, List.set_cons_succ]
          refine takeH18 (v := ?_) (by kernel_rfl) (by kernel_rfl) (by kernel_rfl) (fun _ _ _ h => h) hHeld (by rfl) ?_ ?_
          rotate_left; · (intro w hSw; (try dsimp only at hSw); go_simp; try with_reducible rfl)
          try simp only [Act.put, List.setIfInBounds_toArray, List.set_cons_zero, List.set_cons_succ]
          refine takeH19 (v := ?_) (by kernel_rfl) (by kernel_rfl) (by kernel_rfl) (fun _ _ _ h => h) hHeld (by rfl) ?_ ?_
          rotate_left; · (intro w hSw; (try dsimp only at hSw); go_simp; try with_reducible rfl)
          try simp only [Act.put, List.setIfInBounds_toArray, List.set_cons_zero, List.set_cons_succ]
          refine callH13 (by kernel_rfl) (fun K hK => ?_)
          go_simp
          go_at_call 20
          refine (implLassoWell _ _ z _ _ _ (ppS pr 20) _ _ (st, lp) _ _ (Nat.le_refl _) hRA hRQ (RTv.of rS rL)).mono ?_; rintro e x3 ⟨rfl, hx3⟩
          rw [EL.out]
          replace bA := bA.on hx3; replace bG := bG.on hx3; replace bz := bz.on hx3
          replace hRA := hRA.keep (keeps_below hx3); replace hRP := hRP.keep (keeps_below hx3); replace hRQ := hRQ.keep (keeps_below hx3); replace rS := rS.keep (keeps_below hx3); replace rL := rL.keep (keeps_below hx3)
          replace hwz := below_then hx3 hwz.size hwz
          have a0 := bA.d0; have a1 := bA.d1; have g0 := bG.c0; have g1 := bG.c1; have g2 := bG.c2; have y0 := bz.d0; have y1 := bz.d1
          go_wp2_with fail
          refine hK.out _ _ (⟨a0, a1, g0, g1, g2, y0, y1⟩) (fun hHeld => ?_)
          clear hK K
          try simp only [Act.put, List.setIfInBounds_toArray, List.set_cons_zero, List.set_cons_succ]
          refine callH20 (by kernel_rfl) (fun K hK => ?_)
          go_simp
          go_at_call 22
          refine (w6Met z.1.length _ _ _ lp _ _ (Nat.le_refl _) rL (by omega)).mono ?_; rintro e x4 ⟨vm, rfl, hom, hx4⟩
          obtain ⟨Am, cm, rfl⟩ := hom.form
          replace bA := bA.on hx4; replace bG := bG.on hx4; replace bz := bz.on hx4
          replace hRA := hRA.keep (keeps_below hx4); replace hRP := hRP.keep (keeps_below hx4); replace hRQ := hRQ.keep (keeps_below hx4); replace rS := rS.keep (keeps_below hx4); replace rL := rL.keep (keeps_below hx4)
          replace hwz := below_then hx4 hwz.size hwz
          have a0 := bA.d0; have a1 := bA.d1; have g0 := bG.c0; have g1 := bG.c1; have g2 := bG.c2; have y0 := bz.d0; have y1 := bz.d1
          go_wp2_with fail
          refine hK.out _ _ (⟨a0, a1, g0, g1, g2, y0, y1⟩) (fun hHeld => ?_)
          clear hK K
          try simp only [Act.put, List.setIfInBounds_toArray, List.set_cons_zero, List.set_cons_succ]
          refine callH21 (by kernel_rfl) (fun K hK => ?_)
          go_simp
          go_at_call 21
          refine (implMetWell _ _ _ _ _ _ (ppS pr 20) (metUp lp z.1.length) _ _ (Nat.le_refl _) hRQ hom.reads).mono ?_; rintro e x5 ⟨rfl, hx5⟩
          rw [EM.out]
          replace bA := bA.on hx5; replace bG := bG.on hx5; replace bz := bz.on hx5
          replace hRA := hRA.keep (keeps_below hx5); replace hRP := hRP.keep (keeps_below hx5); replace hRQ := hRQ.keep (keeps_below hx5); replace rS := rS.keep (keeps_below hx5); replace rL := rL.keep (keeps_below hx5)
          replace hwz := below_then hx5 hwz.size hwz
          have a0 := bA.d0; have a1 := bA.d1; have g0 := bG.c0; have g1 := bG.c1; have g2 := bG.c2; have y0 := bz.d0; have y1 := bz.d1
          go_wp2_with fail
          refine hK.out _ _ (⟨a0, a1, g0, g1, g2, y0, y1⟩) (fun hHeld => ?_)
          clear hK K
          try simp only [Act.put, List.setIfInBounds_toArray, List.set_cons_zero, List.set_cons_succ]
          refine takeH22 (v := ?_) (by kernel_rfl) (by kernel_rfl) (by kernel_rfl) (fun _ _ _ h => h) hHeld (by rfl) ?_ ?_
          rotate_left; · (intro w hSw; (try dsimp only at hSw); go_simp; try with_reducible rfl)
          try simp only [Act.put, List.setIfInBounds_toArray, List.set_cons_zero, List.set_cons_succ]
          refine takeH23 (v := ?_) (by kernel_rfl) (by kernel_rfl) (by kernel_rfl) (fun _ _ _ h => h) hHeld (by rfl) ?_ ?_
          rotate_left; · (intro w hSw; (try dsimp only at hSw); go_simp; try with_reducible rfl)
          try simp only [Act.put, List.setIfInBounds_toArray, List.set_cons_zero, List.set_cons_succ]
          refine takeH24 (v := ?_) (by kernel_rfl) (by kernel_rfl) (by kernel_rfl) (fun _ _ _ h => h) hHeld (by rfl) ?_ ?_
          rotate_left; · (intro w hSw; (try dsimp only at hSw); go_simp; try with_reducible rfl)
          try simp only [Act.put, List.setIfInBounds_toArray, List.set_cons_zero, List.set_cons_succ]
          refine wpAnyH_done (by kernel_rfl) ?_ _
          go_wp2
          go_ret
          exact ⟨rfl, hwz⟩
        · have EL := Lib.hid (show lasW z (ppS pr 20) (st, lp) = false by rw [HL.out]; simpa using hbk)
          have EM := Lib.hid (show metW (ppS pr 20) (metUp lp z.1.length) = false by rw [HM.out]; simpa using hbk)
          have e9 : (topW pr lp lp.length % 2 == 0) = false := by simpa using fun h => hbk (HPL2.out.2 h)
          clear hbk
          go_wp2_with fail
          refine wp_region_held_drew (S := (fun w' => w'.cell? ⟨w3.heap.size, 0, none⟩ = some (.slice A0 z.1.length c0) ∧ w'.cell? ⟨w3.heap.size, 1, none⟩ = some (.slice A1 z.2.length c1) ∧ w'.cell? ⟨w3.heap.size + 1, 0, none⟩ = some (.slice A0 z.1.length c0) ∧ w'.cell? ⟨w3.heap.size + 1, 1, none⟩ = some (.slice A1 z.2.length c1) ∧ w'.cell? ⟨w3.heap.size + 1, 2, none⟩ = some (.slice Ap pr.length cp) ∧ w'.cell? ⟨bl, 0, none⟩ = some (.slice S ms ds) ∧ w'.cell? ⟨bl, 1, none⟩ = some (.slice L ml dl))) (by kernel_rfl) ⟨a0, a1, g0, g1, g2, y0, y1⟩ (fun hHeld => ?_)
          replace hwz := Below.drew hwz
          replace bA : Box wz.drew _ _ _ := bA; replace bG : Box wz.drew _ _ _ := bG; replace bz : Box wz.drew _ _ _ := bz
          replace hRA := hRA.keep (keeps_below (Below.drew (Below.refl wz.heap.size wz))); replace hRP := hRP.keep (keeps_below (Below.drew (Below.refl wz.heap.size wz))); replace hRQ := hRQ.keep (keeps_below (Below.drew (Below.refl wz.heap.size wz))); replace rS := rS.keep (keeps_below (Below.drew (Below.refl wz.heap.size wz))); replace rL := rL.keep (keeps_below (Below.drew (Below.refl wz.heap.size wz)))
          clear a0 a1 g0 g1 g2 y0 y1
          generalize wz.drew = wy at *
          have a0 := bA.d0; have a1 := bA.d1; have g0 := bG.c0; have g1 := bG.c1; have g2 := bG.c2; have y0 := bz.d0; have y1 := bz.d1
          refine takeH0 (v := ?_) (by kernel_rfl) (by kernel_rfl) (by kernel_rfl) (fun _ _ _ h => h) hHeld (by rfl) ?_ ?_
          rotate_left; · (intro w hSw; (try dsimp only at hSw); go_simp; try with_reducible rfl)
          try simp only [Act.put, List.setIfInBounds_toArray, List.set_cons_zero, List.set_cons_succ]
          refine takeH1 (v := ?_) (by kernel_rfl) (by kernel_rfl) (by kernel_rfl) (fun _ _ _ h => h) hHeld (by rfl) ?_ ?_
          rotate_left; · (intro w hSw; (try dsimp only at hSw); go_simp; try with_reducible rfl)
          try simp only [Act.put, List.setIfInBounds_toArray, List.set_cons_zero, List.set_cons_succ]
          refine takeH4 (v := ?_) (by kernel_rfl) (by kernel_rfl) (by kernel_rfl) (fun _ _ _ h => h) hHeld (by rfl) ?_ ?_
          rotate_left; · (intro w hSw; (try dsimp only at hSw); go_simp; try with_reducible rfl)
          try simp only [Act.put, List.setIfInBounds_toArray, List.set_cons_zero, List.set_cons_succ]
          refine takeH5 (v := ?_) (by kernel_rfl) (by kernel_rfl) (by kernel_rfl) (fun _ _ _ h => h) hHeld (by rfl) ?_ ?_
          rotate_left; · (intro w hSw; (try dsimp only at hSw); go_simp; try with_reducible rfl)
          try simp only [Act.put, List.setIfInBounds_toArray, List.set_cons_zero, List.set_cons_succ]
          refine takeH6 (v := ?_) (by kernel_rfl) (by kernel_rfl) (by kernel_rfl) (fun _ _ _ h => h) hHeld (by rfl) ?_ ?_
          rotate_left; · (intro w hSw; (try dsimp only at hSw); go_simp; try with_reducible rfl)
          try simp only [Act.put, List.setIfInBounds_toArray, List.set_cons_zero, List.set_cons_succ]
          refine callH2 (by kernel_rfl) (fun K hK => ?_)
          go_simp
          go_at_call 19
          refine (implPlayWon _ _ _ _ _ (z.1, z.2, pr) (st, lp) _ _ (Nat.le_refl _) (RPv.of hRA.ri hRA.rii hRP) (RTv.of rS rL) HPB.out HLA.out).mono ?_; rintro e x1 ⟨rfl, hx1⟩
          replace bA := bA.on hx1; replace bG := bG.on hx1; replace bz := bz.on hx1
          replace hRA := hRA.keep (keeps_below hx1); replace hRP := hRP.keep (keeps_below hx1); replace hRQ := hRQ.keep (keeps_below hx1); replace rS := rS.keep (keeps_below hx1); replace rL := rL.keep (keeps_below hx1)
          replace hwz := below_then hx1 hwz.size hwz
          have a0 := bA.d0; have a1 := bA.d1; have g0 := bG.c0; have g1 := bG.c1; have g2 := bG.c2; have y0 := bz.d0; have y1 := bz.d1
          go_wp2_with fail
          refine hK.out _ _ (⟨a0, a1, g0, g1, g2, y0, y1⟩) (fun hHeld => ?_)
          clear hK K
          try simp only [Act.put, List.setIfInBounds_toArray, List.set_cons_zero, List.set_cons_succ]
          refine takeH3 (v := ?_) (by kernel_rfl) (by kernel_rfl) (by kernel_rfl) (fun _ _ _ h => h) hHeld (by rfl) ?_ ?_
          rotate_left; · (intro w hSw; (try dsimp only at hSw); go_simp; try with_reducible rfl)
          try simp only [Act.put, List.setIfInBounds_toArray, List.set_cons_zero, List.set_cons_succ]
          refine callH7 (by kernel_rfl) (fun K hK => ?_)
          go_simp
          go_at_call 20
          refine (implLassoWell _ _ z _ _ _ (ppS pr 20) _ _ (st, lp) _ _ (Nat.le_refl _) hRA hRQ (RTv.of rS rL)).mono ?_; rintro e x2 ⟨rfl, hx2⟩
          rw [EL.out]
          replace bA := bA.on hx2; replace bG := bG.on hx2; replace bz := bz.on hx2
          replace hRA := hRA.keep (keeps_below hx2); replace hRP := hRP.keep (keeps_below hx2); replace hRQ := hRQ.keep (keeps_below hx2); replace rS := rS.keep (keeps_below hx2); replace rL := rL.keep (keeps_below hx2)
          replace hwz := below_then hx2 hwz.size hwz
          have a0 := bA.d0; have a1 := bA.d1; have g0 := bG.c0; have g1 := bG.c1; have g2 := bG.c2; have y0 := bz.d0; have y1 := bz.d1
          go_wp2_with fail
          refine hK.out _ _ (⟨a0, a1, g0, g1, g2, y0, y1⟩) (fun hHeld => ?_)
          clear hK K
          try simp only [Act.put, List.setIfInBounds_toArray, List.set_cons_zero, List.set_cons_succ]
          refine takeH8 (v := ?_) (by kernel_rfl) (by kernel_rfl) (by kernel_rfl) (fun _ _ _ h => h) hHeld (by rfl) ?_ ?_
          rotate_left; · (intro w hSw; (try dsimp only at hSw); go_simp; try with_reducible rfl)
          try simp only [Act.put, List.setIfInBounds_toArray, List.set_cons_zero, List.set_cons_succ]
          refine takeH9 (v := ?_) (by kernel_rfl) (by kernel_rfl) (by kernel_rfl) (fun _ _ _ h => h) hHeld (by rfl) ?_ ?_
          rotate_left; · (intro w hSw; (try dsimp only at hSw); go_simp; try with_reducible rfl)
          try simp only [Act.put, List.setIfInBounds_toArray, List.set_cons_zero, List.set_cons_succ]
          refine takeH10 (v := ?_) (by kernel_rfl) (by kernel_rfl) (by kernel_rfl) (fun _ _ _ h => h) hHeld (by rfl) ?_ ?_
          rotate_left; · (intro w hSw; (try dsimp only at hSw); go_simp; try with_reducible rfl)
          try simp only [Act.put, List.setIfInBounds_toArray, List.set_cons_zero, List.set_cons_succ]
          refine takeH11 (v := ?_) (by kernel_rfl) (by kernel_rfl) (by kernel_rfl) (fun _ _ _ h => h) hHeld (by rfl) ?_ ?_
          rotate_left; · (intro w hSw; (try dsimp only at hSw); go_simp; try with_reducible rfl)
          try simp only [Act.put, List.setIfInBounds_toArray, List.set_cons_zero, List.set_cons_succ]
          refine takeH12 (v := ?_) (by kernel_rfl) (by kernel_rfl) (by kernel_rfl) (fun _ _ _ h => h) hHeld (by rfl) ?_ ?_
          rotate_left; · (intro w hSw; (try dsimp only at hSw); go_simp; try with_reducible rfl)
          try simp only [Act.put, List.setIfInBounds_toArray, List.set_cons_zero, List.set_cons_succ]
          refine takeH14 (v := ?_) (by kernel_rfl) (by kernel_rfl) (by kernel_rfl) (fun _ _ _ h => h) hHeld (by rfl) ?_ ?_
          rotate_left; · (intro w hSw; (try dsimp only at hSw); go_simp; try with_reducible rfl)
          try simp only [Act.put, List.setIfInBounds_toArray, List.set_cons_zero, List.set_cons_succ]
          refine takeH15 (v := ?_) (by kernel_rfl) (by kernel_rfl) (by kernel_rfl) (fun _ _ _ h => h) hHeld (by rfl) ?_ ?_
          rotate_left; · (intro w hSw; (try dsimp only at hSw); go_simp; try with_reducible rfl)
          try simp only [Act.put, List.setIfInBounds_toArray, List.set_cons_zero, List.set_cons_succ]
          refine takeH16 (v := ?_) (by kernel_rfl) (by kernel_rfl) (by kernel_rfl) (fun _ _ _ h => h) hHeld (by rfl) ?_ ?_
          rotate_left; · (intro w hSw; (try dsimp only at hSw); go_simp; try with_reducible rfl)
          try simp only [Act.put, List.setIfInBounds_toArray, List.set_cons_zero, List.set_cons_succ]
          refine takeH17 (v := ?_) (by kernel_rfl) (by kernel_rfl) (by kernel_rfl) (fun _ _ _ h => h) hHeld (by rfl) ?_ ?_
          rotate_left; · (intro w hSw; (try dsimp only at hSw); go_simp; try with_reducible rfl)
          try simp only [Act.put, List.setIfInBounds_toArray, List.set_cons_zero, List.set_cons_succ]
          refine takeH18 (v := ?_) (by kernel_rfl) (by kernel_rfl) (by kernel_rfl) (fun _ _ _ h => h) hHeld (by rfl) ?_ ?_
          rotate_left; · (intro w hSw; (try dsimp only at hSw); go_simp; try with_reducible rfl)
          try simp only [Act.put, List.setIfInBounds_toArray, List.set_cons_zero, List.set_cons_succ]
          refine takeH19 (v := ?_) (by kernel_rfl) (by kernel_rfl) (by kernel_rfl) (fun _ _ _ h => h) hHeld (by rfl) ?_ ?_
          rotate_left; · (intro w hSw; (try dsimp only at hSw); go_simp; try with_reducible rfl)
          try simp only [Act.put, List.setIfInBounds_toArray, List.set_cons_zero, List.set_cons_succ]
          refine callH13 (by kernel_rfl) (fun K hK => ?_)
          go_simp
          go_at_call 20
          refine (implLassoWell _ _ z _ _ _ (ppS pr 20) _ _ (st, lp) _ _ (Nat.le_refl _) hRA hRQ (RTv.of rS rL)).mono ?_; rintro e x3 ⟨rfl, hx3⟩
          rw [EL.out]
          replace bA := bA.on hx3; replace bG := bG.on hx3; replace bz := bz.on hx3
          replace hRA := hRA.keep (keeps_below hx3); replace hRP := hRP.keep (keeps_below hx3); replace hRQ := hRQ.keep (keeps_below hx3); replace rS := rS.keep (keeps_below hx3); replace rL := rL.keep (keeps_below hx3)
          replace hwz := below_then hx3 hwz.size hwz
          have a0 := bA.d0; have a1 := bA.d1; have g0 := bG.c0; have g1 := bG.c1; have g2 := bG.c2; have y0 := bz.d0; have y1 := bz.d1
          go_wp2_with fail
          refine hK.out _ _ (⟨a0, a1, g0, g1, g2, y0, y1⟩) (fun hHeld => ?_)
          clear hK K
          try simp only [Act.put, List.setIfInBounds_toArray, List.set_cons_zero, List.set_cons_succ]
          refine callH20 (by kernel_rfl) (fun K hK => ?_)
          go_simp
          go_at_call 22
          refine (w6Met z.1.length _ _ _ lp _ _ (Nat.le_refl _) rL (by omega)).mono ?_; rintro e x4 ⟨vm, rfl, hom, hx4⟩
          obtain ⟨Am, cm, rfl⟩ := hom.form
          replace bA := bA.on hx4; replace bG := bG.on hx4; replace bz := bz.on hx4
          replace hRA := hRA.keep (keeps_below hx4); replace hRP := hRP.keep (keeps_below hx4); replace hRQ := hRQ.keep (keeps_below hx4); replace rS := rS.keep (keeps_below hx4); replace rL := rL.keep (keeps_below hx4)
          replace hwz := below_then hx4 hwz.size hwz
          have a0 := bA.d0; have a1 := bA.d1; have g0 := bG.c0; have g1 := bG.c1; have g2 := bG.c2; have y0 := bz.d0; have y1 := bz.d1
          go_wp2_with fail
          refine hK.out _ _ (⟨a0, a1, g0, g1, g2, y0, y1⟩) (fun hHeld => ?_)
          clear hK K
          try simp only [Act.put, List.setIfInBounds_toArray, List.set_cons_zero, List.set_cons_succ]
          refine callH21 (by kernel_rfl) (fun K hK => ?_)
          go_simp
          go_at_call 21
          refine (implMetWell _ _ _ _ _ _ (ppS pr 20) (metUp lp z.1.length) _ _ (Nat.le_refl _) hRQ hom.reads).mono ?_; rintro e x5 ⟨rfl, hx5⟩
          rw [EM.out]
          replace bA := bA.on hx5; replace bG := bG.on hx5; replace bz := bz.on hx5
          replace hRA := hRA.keep (keeps_below hx5); replace hRP := hRP.keep (keeps_below hx5); replace hRQ := hRQ.keep (keeps_below hx5); replace rS := rS.keep (keeps_below hx5); replace rL := rL.keep (keeps_below hx5)
          replace hwz := below_then hx5 hwz.size hwz
          have a0 := bA.d0; have a1 := bA.d1; have g0 := bG.c0; have g1 := bG.c1; have g2 := bG.c2; have y0 := bz.d0; have y1 := bz.d1
          go_wp2_with fail
          refine hK.out _ _ (⟨a0, a1, g0, g1, g2, y0, y1⟩) (fun hHeld => ?_)
          clear hK K
          try simp only [Act.put, List.setIfInBounds_toArray, List.set_cons_zero, List.set_cons_succ]
          refine takeH22 (v := ?_) (by kernel_rfl) (by kernel_rfl) (by kernel_rfl) (fun _ _ _ h => h) hHeld (by rfl) ?_ ?_
          rotate_left; · (intro w hSw; (try dsimp only at hSw); go_simp; try with_reducible rfl)
          try simp only [Act.put, List.setIfInBounds_toArray, List.set_cons_zero, List.set_cons_succ]
          refine takeH23 (v := ?_) (by kernel_rfl) (by kernel_rfl) (by kernel_rfl) (fun _ _ _ h => h) hHeld (by rfl) ?_ ?_
          rotate_left; · (intro w hSw; (try dsimp only at hSw); go_simp; try with_reducible rfl)
          try simp only [Act.put, List.setIfInBounds_toArray, List.set_cons_zero, List.set_cons_succ]
          refine takeH24 (v := ?_) (by kernel_rfl) (by kernel_rfl) (by kernel_rfl) (fun _ _ _ h => h) hHeld (by rfl) ?_ ?_
          rotate_left; · (intro w hSw; (try dsimp only at hSw); go_simp; try with_reducible rfl)
          try simp only [Act.put, List.setIfInBounds_toArray, List.set_cons_zero, List.set_cons_succ]
          refine wpAnyH_done (by kernel_rfl) ?_ _
          go_wp2
          go_ret
          exact ⟨rfl, hwz⟩

theorem own : ownKnob Try.prog.godebug = none := by kernel_rfl
theorem laidOut : laidOutB Try.prog = true := by kernel_rfl
set_option maxRecDepth 100000 in
theorem lifted (os : Os) (started : os.Started) (H : Type) (enc : TypeId × Value → H) :
    ReturnsInHanded {} Try.checked os 3 .any (Rows.fnParityPairsSpec.pre6 enc Try.prog Try.f3 Rows.fnParityPairsRow.domain false) (Rows.fnParityPairsSpec.post enc Try.prog Try.f3 false true false false) := by
  refine returnsInHanded_of_change (C := Try.checked) own started (by kernel_rfl) Try.func3
    (ChangeSpec.witness6 (enc := enc) (C := Try.checked) false ⟨#[], #[.slice none 0 0], []⟩ 8 (by kernel_rfl) (by kernel_rfl) (by kernel_rfl) (by kernel_rfl)) ?_
  intro W base args ds gs before hval0 hW hcnd _
  have hval : ∀ (j : Nat) t v, Try.f3.params[j]? = some t → args[j]? = some v → Value.okWide Try.prog W .any base t v := hval0
  have hW' := hW
  obtain ⟨p, q, hA0, hV, rfl, hfz, hnd⟩ := hW
  have hA : DataW.TrodAll enc Try.prog W 0 (fun _ => true) true Try.f3.params.toList args.toList ds p := hA0
  rw [Try.params3] at hA hval
  obtain ⟨v0, vs0, d0, ds0, p0, q0, hargs, rfl, rfl, h0, r0⟩ := trodAll_cons hA
  obtain ⟨rfl, rfl, rfl⟩ := trodAll_nil r0
  obtain rfl : args = #[v0] := by cases args; simp_all
  obtain ⟨rfl, rfl⟩ := trodVars_none hV
  have k0 := h0
  have lt0 : ∀ x ∈ p0, x.block < W.heap.size := by obtain ⟨m, hm⟩ := k0; exact DataW.trod_lt m _ _ _ hm
  obtain ⟨fuel0, hf0⟩ := h0
  obtain ⟨A0, n0, c0, rfl⟩ := okWide_slice Try.underlying22 (hval 0 22 v0 rfl rfl)
  obtain ⟨B0, m0, d0, ps0, e0, rr0⟩ := ry_of_trod (c := .slice A0 n0 c0) Try.underlying22 Try.underlying5 (by kernel_rfl) (by intro; rfl) hf0
  injection e0 with ea0 eb0 ec0
  subst ea0; subst eb0; subst ec0
  clear hA0 hval0
  refine (walk _ _ _ _ W rr0).mono fun e W' ⟨he, bel⟩ => ?_
  subst he
  exact ⟨_, rfl, _, _, _, [], _, [], hW', trodAll_mk1 (shut_bool Try.underlying4 _), (trodAll_cons_mk (Below.trod laidOut (by kernel_rfl) (of_decide_eq_true (by kernel_rfl)) k0 bel lt0) trodAll_mk0), rfl, bel.frame _, fun h => by cases h⟩
theorem over : Rows.fnParityPairsRow.holds Try.pinned (OpenSpec.ofChange Rows.fnParityPairsSpec) :=
  OpenClaim.holds_of_wide 3 Try.f3 rfl rfl rfl rfl rfl rfl rfl ⟨rfl, rfl, rfl, rfl, rfl⟩ rfl rfl rfl rfl rfl (by kernel_rfl) Try.func3 (by kernel_rfl)
    (of_decide_eq_true (by kernel_rfl)) (by unfold Func.isWrapper; first | (rw [if_pos (by decide +kernel)]; kernel_rfl) | (rw [if_neg (by decide +kernel)]; exact ⟨rfl, rfl⟩))
    (fun os started H enc _ => lifted os started H enc)
/-- the statement -/
theorem proved : Rows.FnParityPairsSaid := over
end Go.Proofs.Ytlmhhnplacejkaa.fnParityPairs

