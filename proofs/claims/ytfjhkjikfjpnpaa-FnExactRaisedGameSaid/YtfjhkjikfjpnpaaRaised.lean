/- RaisedGame, spec and impl. -/
import Derived.Test.YtfjhkjikfjpnpaaCopyP
import Derived.Test.YtfjhkjikfjpnpaaGame2
import Derived.Test.YtfjhkjikfjpnpaaMore
import Derived.Test.YtfjhkjikfjpnpaaPlan
import Derived.Test.YtfjhkjikfjpnpaaAttr
import Derived.Deep.RegionHeld3
import Derived.Test.YtfjhkjikfjpnpaaHand
namespace Go.Proofs.Ytfjhkjikfjpnpaa
open Go.RowKit

theorem twoH_0_21 {P : Program} {Q : Exit → Act → World → Prop} {md : Region.Mode} {S : World → Prop} {fuel : Nat} {listed : Array Bool} {a : Act} {w : World} {o0 o1 o2 o3 o4 o5 o6 o7 o8 o9 o10 o11 o12 o13 o14 o15 o16 o17 o18 o19 o20 o21 : Oper} {r : List Oper} (hr : Region.ready md (List.toArray (o0 :: o1 :: o2 :: o3 :: o4 :: o5 :: o6 :: o7 :: o8 :: o9 :: o10 :: o11 :: o12 :: o13 :: o14 :: o15 :: o16 :: o17 :: o18 :: o19 :: o20 :: o21 :: r)) listed = [0, 21])
    (h1 : ∀ K' : Act → World → Prop, Shut (∀ a w, S w → (S w → wpAnyH P md (List.toArray (o0 :: o1 :: o2 :: o3 :: o4 :: o5 :: o6 :: o7 :: o8 :: o9 :: o10 :: o11 :: o12 :: o13 :: o14 :: o15 :: o16 :: o17 :: o18 :: o19 :: o20 :: o21 :: r)) Q S fuel (listed.setIfInBounds 0 true) a w) → K' a w) → if Region.wanted o0 (yielded (List.toArray (o0 :: o1 :: o2 :: o3 :: o4 :: o5 :: o6 :: o7 :: o8 :: o9 :: o10 :: o11 :: o12 :: o13 :: o14 :: o15 :: o16 :: o17 :: o18 :: o19 :: o20 :: o21 :: r)) a.tmps) = true then Oper.wp P o0 a w K' Q else K' (a.put o0.dst undef) w) (h2 : ∀ K' : Act → World → Prop, Shut (∀ a w, S w → (S w → wpAnyH P md (List.toArray (o0 :: o1 :: o2 :: o3 :: o4 :: o5 :: o6 :: o7 :: o8 :: o9 :: o10 :: o11 :: o12 :: o13 :: o14 :: o15 :: o16 :: o17 :: o18 :: o19 :: o20 :: o21 :: r)) Q S fuel (listed.setIfInBounds 21 true) a w) → K' a w) → if Region.wanted o21 (yielded (List.toArray (o0 :: o1 :: o2 :: o3 :: o4 :: o5 :: o6 :: o7 :: o8 :: o9 :: o10 :: o11 :: o12 :: o13 :: o14 :: o15 :: o16 :: o17 :: o18 :: o19 :: o20 :: o21 :: r)) a.tmps) = true then Oper.wp P o21 a w K' Q else K' (a.put o21.dst undef) w) : wpAnyH P md (List.toArray (o0 :: o1 :: o2 :: o3 :: o4 :: o5 :: o6 :: o7 :: o8 :: o9 :: o10 :: o11 :: o12 :: o13 :: o14 :: o15 :: o16 :: o17 :: o18 :: o19 :: o20 :: o21 :: r)) Q S (fuel + 1) listed a w :=
  wpAnyH_ready (rs := [0, 21]) hr (by simp) (AllReadyH.cons rfl h1 (AllReadyH.cons rfl h2 AllReadyH.nil))
def raiseUp (g : ParD) (by_ : Int) (k : Nat) : ParD := (g.1.take k, g.2.1.take k, (g.2.2.take k).map (· + 2 * by_))
theorem raiseUp_succ {g : ParD} {by_ : Int} {k : Nat} (h0 : k < g.1.length) (h1 : k < g.2.1.length) (h2 : k < g.2.2.length) : raiseUp g by_ (k + 1) = addV (raiseUp g by_ k) (gi g.1 k) (gi g.2.2 k + 2 * by_) (gl g.2.1 k) := by
  unfold raiseUp addV
  rw [take_gi h0, take_gl h1, take_gi h2, List.map_append]
  rfl
theorem raiseUp_small {g : ParD} {by_ : Int} {k : Nat} (h : k ≤ 256) : small (raiseUp g by_ k) := by
  unfold raiseUp small
  refine ⟨?_, ?_, ?_⟩ <;> simp <;> omega
noncomputable def okRaise (g : ParD) (by_ : Int) : Bool := parB g && (inR by_ 0 40 && decide (∀ i, i < g.2.2.length → gi g.2.2 i + 2 * by_ ≤ 40))
noncomputable def raiseG (g : ParD) (by_ : Int) : ParD := if okRaise g by_ = true then raiseUp g by_ g.2.2.length else ([], [], [])
theorem raise_par {g : ParD} {by_ : Int} (h : parB g = false) : okRaise g by_ = false := by unfold okRaise; rw [h]; rfl
theorem raise_by {g : ParD} {by_ : Int} (h : inR by_ 0 40 = false) : okRaise g by_ = false := by unfold okRaise; rw [h, Bool.false_and, Bool.and_false]
theorem raise_top {g : ParD} {by_ : Int} (h : ¬ ∀ i, i < g.2.2.length → gi g.2.2 i + 2 * by_ ≤ 40) : okRaise g by_ = false := by unfold okRaise; rw [decide_eq_false h, Bool.and_false, Bool.and_false]
theorem raise_yes {g : ParD} {by_ : Int} (h : parB g = true) (h1 : inR by_ 0 40 = true) (h2 : ∀ i, i < g.2.2.length → gi g.2.2 i + 2 * by_ ≤ 40) : okRaise g by_ = true := by unfold okRaise; rw [h, h1, decide_eq_true h2]; rfl
theorem raiseG_no {g : ParD} {by_ : Int} (h : okRaise g by_ = false) : raiseG g by_ = ([], [], []) := by unfold raiseG; rw [h]; rfl
theorem raiseG_yes {g : ParD} {by_ : Int} (h : okRaise g by_ = true) : raiseG g by_ = raiseUp g by_ g.2.2.length := if_pos h
theorem raise_tot (g : ParD) (by_ : Int) : (ptot (raiseG g by_) : Int) ≤ 1048576 := by
  cases h : okRaise g by_ with
  | false => rw [raiseG_no h]; simp [ptot, artot, tot]
  | true =>
    rw [raiseG_yes h]
    have hp : parB g = true := by unfold okRaise at h; rw [Bool.and_eq_true] at h; exact h.1
    have hf := finePar_of hp
    have h1 := fine_ptot hf
    have h2 := hf.1.2.2.1; have h3 := hf.2.1
    unfold ptot artot at *
    have e : raiseUp g by_ g.2.2.length = (g.1, g.2.1, g.2.2.map (· + 2 * by_)) := by
      unfold raiseUp
      rw [List.take_of_length_le (by omega), List.take_of_length_le (by omega), List.take_of_length_le (Nat.le_refl _)]
    rw [e]
    simp only [List.length_map]
    omega


set_option maxRecDepth 100000 in
set_option maxHeartbeats 1600000 in
theorem specRaisedGame (s0 s1 s2 : Value) (g : ParD) (by_ : Int) (w : World) (B : Nat) (hB : B ≤ w.heap.size) (ha : RPv w s0 s1 s2 g) :
    Calls Try.prog 32 #[.agg #[s0, s1, s2], .int .i64 by_] w fun e w' => ∃ t0 t1 t2, e = .returned (.tuple #[.agg #[t0, t1, t2], .bool (okRaise g by_)]) ∧ OPar w' B t0 t1 t2 (raiseG g by_) ∧ Below B w w' := by
  have har := ha
  obtain ⟨A0, n0, c0, A1, n1, c1, A2, n2, c2, rfl, rfl, rfl⟩ := ha.form
  have hr := ha.ri; have hrr := ha.rii; have hrp := ha.rp
  have b1 := hr.cap; have b2 := hr.top; have b3 := hrr.cap; have b4 := hrr.top; have b5 := hrp.cap; have b6 := hrp.top
  have HL := Lib.hid hr.len; have HM := Lib.hid hrr.len; have HP := Lib.hid hrp.len
  have hwL : Below w.heap.size w ((w.alloc (.cells #[.slice A0 n0 c0, .slice A1 n1 c1, .slice A2 n2 c2] 44)).alloc (.cells #[.slice none 0 0, .slice none 0 0, .slice none 0 0] 44)) := below_alloc (Nat.le_refl _) (below_alloc (Nat.le_refl _) (Below.refl _ _))
  have bxL := (Box.new w 44 #[.slice A0 n0 c0, .slice A1 n1 c1, .slice A2 n2 c2]).alloc (.cells #[.slice none 0 0, .slice none 0 0, .slice none 0 0] 44)
  have brL : Box ((w.alloc (.cells #[.slice A0 n0 c0, .slice A1 n1 c1, .slice A2 n2 c2] 44)).alloc (.cells #[.slice none 0 0, .slice none 0 0, .slice none 0 0] 44)) (w.heap.size + 1) 44 #[.slice none 0 0, .slice none 0 0, .slice none 0 0] := Box.new' (by simp)
  cases hp : parB g with
  | false =>
    have E := Lib.hid (raise_par (by_ := by_) hp)
    have E2 := Lib.hid (raiseG_no E.out)
    have HPB := Lib.hid hp
    clear hp
    have q0 : ((w.alloc (.cells #[.slice A0 n0 c0, .slice A1 n1 c1, .slice A2 n2 c2] 44)).alloc (.cells #[.slice none 0 0, .slice none 0 0, .slice none 0 0] 44)).cell? ⟨w.heap.size, 0, none⟩ = some (.slice A0 n0 c0) := bxL.cell 0; have q1 : ((w.alloc (.cells #[.slice A0 n0 c0, .slice A1 n1 c1, .slice A2 n2 c2] 44)).alloc (.cells #[.slice none 0 0, .slice none 0 0, .slice none 0 0] 44)).cell? ⟨w.heap.size, 1, none⟩ = some (.slice A1 n1 c1) := bxL.cell 1; have q2 : ((w.alloc (.cells #[.slice A0 n0 c0, .slice A1 n1 c1, .slice A2 n2 c2] 44)).alloc (.cells #[.slice none 0 0, .slice none 0 0, .slice none 0 0] 44)).cell? ⟨w.heap.size, 2, none⟩ = some (.slice A2 n2 c2) := bxL.cell 2
    go_enter Try.func32, Try.ntmps32
    go_wp2_with fail
    refine (specParityOk _ _ _ g _ _ (Nat.le_refl _) (har.keep (keeps_below hwL))).mono ?_; rintro e w1 ⟨rfl, hb1⟩
    rw [HPB.out]
    have hw1 := below_then hb1 hwL.size hwL
    replace brL := brL.on hb1
    clear q0 q1 q2
    have z0 : w1.cell? ⟨w.heap.size + 1, 0, none⟩ = some (.slice none 0 0) := brL.cell 0; have f0 := brL.hot 0; have z1 : w1.cell? ⟨w.heap.size + 1, 1, none⟩ = some (.slice none 0 0) := brL.cell 1; have f1 := brL.hot 1; have z2 : w1.cell? ⟨w.heap.size + 1, 2, none⟩ = some (.slice none 0 0) := brL.cell 2; have f2 := brL.hot 2
    go_wp2
    obtain ⟨hwZ, bxZ⟩ := zero3 hw1 (by omega) brL (.slice none 0 0) (.slice none 0 0) (.slice none 0 0)
    have R0 := bxZ.cell 0; have R1 := bxZ.cell 1; have R2 := bxZ.cell 2
    simp only [List.getElem?_toArray, List.getElem?_cons_zero, List.getElem?_cons_succ] at R0 R1 R2
    exact bodyPost_ret (v := .tuple #[.agg #[.slice none 0 0, .slice none 0 0, .slice none 0 0], .bool false]) (by simp [results, Try.results32, go_sem, R0, R1, R2]) rfl ⟨_, _, _, by rw [E.out], by rw [E2.out]; exact OPar.nil _ _, hwZ.mono hB⟩
  | true =>
    have HPB := Lib.hid hp
    have hf := finePar_of hp
    have hn0 := hf.1.2.1; have hn1 := hf.1.2.2.1; have hn2 := hf.2.1
    rw [HL.out] at hn0 hn1 hn2
    rw [HM.out] at hn1
    rw [HP.out] at hn2
    have HF := Lib.hid hf
    have H10 := Lib.hid hn1; have H20 := Lib.hid hn2
    clear hp hf hn1 hn2
    cases hby : inR by_ 0 40 with
    | false =>
      have E := Lib.hid (raise_by (g := g) hby)
      have E2 := Lib.hid (raiseG_no E.out)
      have HBY := Lib.hid hby
      clear hby
      have q0 : ((w.alloc (.cells #[.slice A0 n0 c0, .slice A1 n1 c1, .slice A2 n2 c2] 44)).alloc (.cells #[.slice none 0 0, .slice none 0 0, .slice none 0 0] 44)).cell? ⟨w.heap.size, 0, none⟩ = some (.slice A0 n0 c0) := bxL.cell 0; have q1 : ((w.alloc (.cells #[.slice A0 n0 c0, .slice A1 n1 c1, .slice A2 n2 c2] 44)).alloc (.cells #[.slice none 0 0, .slice none 0 0, .slice none 0 0] 44)).cell? ⟨w.heap.size, 1, none⟩ = some (.slice A1 n1 c1) := bxL.cell 1; have q2 : ((w.alloc (.cells #[.slice A0 n0 c0, .slice A1 n1 c1, .slice A2 n2 c2] 44)).alloc (.cells #[.slice none 0 0, .slice none 0 0, .slice none 0 0] 44)).cell? ⟨w.heap.size, 2, none⟩ = some (.slice A2 n2 c2) := bxL.cell 2
      go_enter Try.func32, Try.ntmps32
      go_wp2_with fail
      refine (specParityOk _ _ _ g _ _ (Nat.le_refl _) (har.keep (keeps_below hwL))).mono ?_; rintro e w1 ⟨rfl, hb1⟩
      rw [HPB.out]
      have hw1 := below_then hb1 hwL.size hwL
      replace brL := brL.on hb1
      clear q0 q1 q2
      go_wp2_with fail
      refine (l1In _ _ _ _).mono ?_; rintro e w2 ⟨rfl, qx, rfl⟩
      rw [HBY.out]
      replace hw1 := below_drewN hw1 qx
      replace brL := brL.drewN qx
      have z0 : (w1.drewN qx).cell? ⟨w.heap.size + 1, 0, none⟩ = some (.slice none 0 0) := brL.cell 0; have f0 := brL.hot 0; have z1 : (w1.drewN qx).cell? ⟨w.heap.size + 1, 1, none⟩ = some (.slice none 0 0) := brL.cell 1; have f1 := brL.hot 1; have z2 : (w1.drewN qx).cell? ⟨w.heap.size + 1, 2, none⟩ = some (.slice none 0 0) := brL.cell 2; have f2 := brL.hot 2
      go_wp2
      obtain ⟨hwZ, bxZ⟩ := zero3 hw1 (by omega) brL (.slice none 0 0) (.slice none 0 0) (.slice none 0 0)
      have R0 := bxZ.cell 0; have R1 := bxZ.cell 1; have R2 := bxZ.cell 2
      simp only [List.getElem?_toArray, List.getElem?_cons_zero, List.getElem?_cons_succ] at R0 R1 R2
      exact bodyPost_ret (v := .tuple #[.agg #[.slice none 0 0, .slice none 0 0, .slice none 0 0], .bool false]) (by simp [results, Try.results32, go_sem, R0, R1, R2]) rfl ⟨_, _, _, by rw [E.out], by rw [E2.out]; exact OPar.nil _ _, hwZ.mono hB⟩
    | true =>
      have HBY := Lib.hid hby
      have hby2 := of_decide_eq_true hby
      have y1 := hby2.1; have y2 := hby2.2
      clear hby hby2
      have q0 : ((w.alloc (.cells #[.slice A0 n0 c0, .slice A1 n1 c1, .slice A2 n2 c2] 44)).alloc (.cells #[.slice none 0 0, .slice none 0 0, .slice none 0 0] 44)).cell? ⟨w.heap.size, 0, none⟩ = some (.slice A0 n0 c0) := bxL.cell 0; have q1 : ((w.alloc (.cells #[.slice A0 n0 c0, .slice A1 n1 c1, .slice A2 n2 c2] 44)).alloc (.cells #[.slice none 0 0, .slice none 0 0, .slice none 0 0] 44)).cell? ⟨w.heap.size, 1, none⟩ = some (.slice A1 n1 c1) := bxL.cell 1; have q2 : ((w.alloc (.cells #[.slice A0 n0 c0, .slice A1 n1 c1, .slice A2 n2 c2] 44)).alloc (.cells #[.slice none 0 0, .slice none 0 0, .slice none 0 0] 44)).cell? ⟨w.heap.size, 2, none⟩ = some (.slice A2 n2 c2) := bxL.cell 2
      go_enter Try.func32, Try.ntmps32
      go_wp2_with fail
      refine (specParityOk _ _ _ g _ _ (Nat.le_refl _) (har.keep (keeps_below hwL))).mono ?_; rintro e w1 ⟨rfl, hb1⟩
      rw [HPB.out]
      have hw1 := below_then hb1 hwL.size hwL
      replace brL := brL.on hb1
      replace bxL := bxL.on hb1
      clear q0 q1 q2
      go_wp2_with fail
      refine (l1In _ _ _ _).mono ?_; rintro e w2 ⟨rfl, hqx⟩
      rw [HBY.out]
      replace hw1 := below_qt hqx hw1
      replace brL := brL.on (below_qt hqx (Below.refl _ _))
      replace bxL := bxL.on (below_qt hqx (Below.refl _ _))
      have hG := GSx.start hw1 (Nat.le_succ _) brL
      have hX := bxL.alloc (.cells #[.slice none 0 0, .slice none 0 0, .slice none 0 0] 44)
      clear hb1 hqx hw1 brL bxL hwL
      go_wp2
      go_loopw [7] (fun i wr => ∃ (k : Nat) (u0 u1 u2 : Value), k ≤ n2 ∧ i = .int .i64 k ∧ (∀ j, j < k → gi g.2.2 j + 2 * by_ ≤ 40) ∧ GSx (w2.heap.size + 1) w wr (w.heap.size + 1) w2.heap.size u0 u1 u2 (raiseUp g by_ k) ∧ Box wr w.heap.size 44 #[.slice A0 n0 c0, .slice A1 n1 c1, .slice A2 n2 c2]) (fun i _ => n2 - (intOf i).toNat)
      case atStart => exact ⟨0, _, _, _, Nat.zero_le _, rfl, by omega, hG, hX⟩
      case round =>
        clear hG hX
        obtain ⟨k, u0, u1, u2, hk, rfl, hall, hG, hX⟩ := hrel
        have HA := Lib.hid hall
        clear hall
        have hwr := hG.below
        have hord := hG.ord
        have hsz := hG.size
        have q0 : wr.cell? ⟨w.heap.size, 0, none⟩ = some (.slice A0 n0 c0) := hX.cell 0; have q1 : wr.cell? ⟨w.heap.size, 1, none⟩ = some (.slice A1 n1 c1) := hX.cell 1; have q2 : wr.cell? ⟨w.heap.size, 2, none⟩ = some (.slice A2 n2 c2) := hX.cell 2
        by_cases hlt : k < n2
        · have hlt0 : k < n0 := by have := H20.out; omega
          have hlt1 : k < n1 := by have := H10.out; have := H20.out; omega
          obtain ⟨bo, oo, rfl, hco⟩ := hr.at_ hlt0
          obtain ⟨bn, on, An, nn, cn, rfl, hcn, rn⟩ := hrr.at_ hlt1
          obtain ⟨bp, op, rfl, hcp⟩ := hrp.at_ hlt
          have lo_ := cell_lt hco; have ln_ := cell_lt hcn; have lp_ := cell_lt hcp
          have ko := below_cell hwr hco; have kn := below_cell hwr hcn; have kp := below_cell hwr hcp
          have hpr := HF.out.2.2 k (by rw [HP.out]; exact hlt)
          have hp1 := hpr.1; have hp2 := hpr.2
          have hki : (k : Int) < (n0 : Int) := by omega
          have hki1 : (k : Int) < (n1 : Int) := by omega
          have hki2 : (k : Int) < (n2 : Int) := by omega
          have hk0 : (0 : Int) ≤ (k : Int) := by omega
          have hnn : nn ≤ 1048576 := by
            have := (HF.out.1.2.2.2 k (by rw [HL.out]; exact hlt0)).2.1.2
            rw [rn.len] at this; omega
          have e1 : IntKind.i64.wrap (2 * by_) = 2 * by_ := IntWalk.i64_in _ (by omega)
          have e2 : IntKind.i64.wrap (gi g.2.2 k + 2 * by_) = gi g.2.2 k + 2 * by_ := IntWalk.i64_in _ (by omega)
          by_cases hgt : gi g.2.2 k + 2 * by_ ≤ 40
          · obtain ⟨U0, v0, U1, v1, U2, v2, rfl, rfl, rfl⟩ := hG.own.form
            have HN := Lib.hid (raiseUp_succ (g := g) (by_ := by_) (k := k) (by rw [HL.out]; exact hlt0) (by rw [HM.out]; exact hlt1) (by rw [HP.out]; exact hlt))
            have hnd : ¬ 40 < gi g.2.2 k + 2 * by_ := by omega
            have HGT := Lib.hid hgt
            clear hgt hpr
            have g0 := hG.c0; have g1 := hG.c1; have g2 := hG.c2
            have x1 : ¬ w2.heap.size = bo := by omega
            have x2 : ¬ w2.heap.size = bn := by omega
            have x3 : ¬ w2.heap.size = bp := by omega
            have x4 : ¬ w2.heap.size = w.heap.size := by omega
            go_wp2_with fail
            refine wp_region_held_drew (S := (fun w' => w'.cell? ⟨w.heap.size, 0, none⟩ = some (.slice (some ⟨bo, oo, none⟩) n0 c0) ∧ w'.cell? ⟨w.heap.size, 1, none⟩ = some (.slice (some ⟨bn, on, none⟩) n1 c1) ∧ w'.cell? ⟨w.heap.size, 2, none⟩ = some (.slice (some ⟨bp, op, none⟩) n2 c2) ∧ w'.cell? ⟨bo, oo + k, none⟩ = some (.int .i64 (gi g.1 k)) ∧ w'.cell? ⟨bn, on + k, none⟩ = some (.slice An nn cn) ∧ w'.cell? ⟨bp, op + k, none⟩ = some (.int .i64 (gi g.2.2 k)))) (by kernel_rfl) (⟨q0, q1, q2, ko, kn, kp⟩) (fun hHeld => ?_)
            refine takeH1 (v := ?_) (by kernel_rfl) (by kernel_rfl) (by kernel_rfl) (fun _ _ _ h => h) hHeld (by rfl) ?_ ?_
            rotate_left; · (intro w hSw; (try dsimp only at hSw); go_simp; try with_reducible rfl)
            try simp only [Act.put, List.setIfInBounds_toArray, List.set_cons_zero, List.set_cons_succ]
            refine takeH2 (v := ?_) (by kernel_rfl) (by kernel_rfl) (by kernel_rfl) (fun _ _ _ h => h) hHeld (by rfl) ?_ ?_
            rotate_left; · (intro w hSw; (try dsimp only at hSw); go_simp; try with_reducible rfl)
            try simp only [Act.put, List.setIfInBounds_toArray, List.set_cons_zero, List.set_cons_succ]
            refine takeH3 (v := ?_) (by kernel_rfl) (by kernel_rfl) (by kernel_rfl) (fun _ _ _ h => h) hHeld (by rfl) ?_ ?_
            rotate_left; · (intro w hSw; (try dsimp only at hSw); go_simp; try with_reducible rfl)
            try simp only [Act.put, List.setIfInBounds_toArray, List.set_cons_zero, List.set_cons_succ]
            refine takeH4 (v := ?_) (by kernel_rfl) (by kernel_rfl) (by kernel_rfl) (fun _ _ _ h => h) hHeld (by rfl) ?_ ?_
            rotate_left; · (intro w hSw; (try dsimp only at hSw); go_simp; try with_reducible rfl)
            try simp only [Act.put, List.setIfInBounds_toArray, List.set_cons_zero, List.set_cons_succ]
            refine takeH5 (v := ?_) (by kernel_rfl) (by kernel_rfl) (by kernel_rfl) (fun _ _ _ h => h) hHeld (by rfl) ?_ ?_
            rotate_left; · (intro w hSw; (try dsimp only at hSw); go_simp; try with_reducible rfl)
            try simp only [Act.put, List.setIfInBounds_toArray, List.set_cons_zero, List.set_cons_succ]
            refine takeH6 (v := ?_) (by kernel_rfl) (by kernel_rfl) (by kernel_rfl) (fun _ _ _ h => h) hHeld (by rfl) ?_ ?_
            rotate_left; · (intro w hSw; (try dsimp only at hSw); go_simp; try with_reducible rfl)
            try simp only [Act.put, List.setIfInBounds_toArray, List.set_cons_zero, List.set_cons_succ]
            refine takeH7 (v := ?_) (by kernel_rfl) (by kernel_rfl) (by kernel_rfl) (fun _ _ _ h => h) hHeld (by rfl) ?_ ?_
            rotate_left; · (intro w hSw; (try dsimp only at hSw); go_simp; try with_reducible rfl)
            try simp only [Act.put, List.setIfInBounds_toArray, List.set_cons_zero, List.set_cons_succ]
            refine takeH8 (v := ?_) (by kernel_rfl) (by kernel_rfl) (by kernel_rfl) (fun _ _ _ h => h) hHeld (by rfl) ?_ ?_
            rotate_left; · (intro w hSw; (try dsimp only at hSw); go_simp; try with_reducible rfl)
            try simp only [Act.put, List.setIfInBounds_toArray, List.set_cons_zero, List.set_cons_succ]
            refine takeH9 (v := ?_) (by kernel_rfl) (by kernel_rfl) (by kernel_rfl) (fun _ _ _ h => h) hHeld (by rfl) ?_ ?_
            rotate_left; · (intro w hSw; (try dsimp only at hSw); go_simp; try with_reducible rfl)
            try simp only [Act.put, List.setIfInBounds_toArray, List.set_cons_zero, List.set_cons_succ]
            refine takeH10 (v := ?_) (by kernel_rfl) (by kernel_rfl) (by kernel_rfl) (fun _ _ _ h => h) hHeld (by rfl) ?_ ?_
            rotate_left; · (intro w hSw; (try dsimp only at hSw); go_simp; try with_reducible rfl)
            try simp only [Act.put, List.setIfInBounds_toArray, List.set_cons_zero, List.set_cons_succ]
            refine takeH11 (v := ?_) (by kernel_rfl) (by kernel_rfl) (by kernel_rfl) (fun _ _ _ h => h) hHeld (by rfl) ?_ ?_
            rotate_left; · (intro w hSw; (try dsimp only at hSw); go_simp; try with_reducible rfl)
            try simp only [Act.put, List.setIfInBounds_toArray, List.set_cons_zero, List.set_cons_succ]
            refine takeH12 (v := ?_) (by kernel_rfl) (by kernel_rfl) (by kernel_rfl) (fun _ _ _ h => h) hHeld (by rfl) ?_ ?_
            rotate_left; · (intro w hSw; (try dsimp only at hSw); go_simp; try with_reducible rfl)
            try simp only [Act.put, List.setIfInBounds_toArray, List.set_cons_zero, List.set_cons_succ]
            refine takeH13 (v := ?_) (by kernel_rfl) (by kernel_rfl) (by kernel_rfl) (fun _ _ _ h => h) hHeld (by rfl) ?_ ?_
            rotate_left; · (intro w hSw; (try dsimp only at hSw); go_simp; try with_reducible rfl)
            try simp only [Act.put, List.setIfInBounds_toArray, List.set_cons_zero, List.set_cons_succ]
            refine takeH14 (v := ?_) (by kernel_rfl) (by kernel_rfl) (by kernel_rfl) (fun _ _ _ h => h) hHeld (by rfl) ?_ ?_
            rotate_left; · (intro w hSw; (try dsimp only at hSw); go_simp; try with_reducible rfl)
            try simp only [Act.put, List.setIfInBounds_toArray, List.set_cons_zero, List.set_cons_succ]
            refine takeH15 (v := ?_) (by kernel_rfl) (by kernel_rfl) (by kernel_rfl) (fun _ _ _ h => h) hHeld (by rfl) ?_ ?_
            rotate_left; · (intro w hSw; (try dsimp only at hSw); go_simp; try with_reducible rfl)
            try simp only [Act.put, List.setIfInBounds_toArray, List.set_cons_zero, List.set_cons_succ]
            refine takeH16 (v := ?_) (by kernel_rfl) (by kernel_rfl) (by kernel_rfl) (fun _ _ _ h => h) hHeld (by rfl) ?_ ?_
            rotate_left; · (intro w hSw; (try dsimp only at hSw); go_simp; try with_reducible rfl)
            try simp only [Act.put, List.setIfInBounds_toArray, List.set_cons_zero, List.set_cons_succ]
            refine takeH17 (v := ?_) (by kernel_rfl) (by kernel_rfl) (by kernel_rfl) (fun _ _ _ h => h) hHeld (by rfl) ?_ ?_
            rotate_left; · (intro w hSw; (try dsimp only at hSw); go_simp; try with_reducible rfl)
            try simp only [Act.put, List.setIfInBounds_toArray, List.set_cons_zero, List.set_cons_succ]
            refine takeH18 (v := ?_) (by kernel_rfl) (by kernel_rfl) (by kernel_rfl) (fun _ _ _ h => h) hHeld (by rfl) ?_ ?_
            rotate_left; · (intro w hSw; (try dsimp only at hSw); go_simp; try with_reducible rfl)
            try simp only [Act.put, List.setIfInBounds_toArray, List.set_cons_zero, List.set_cons_succ]
            refine takeH19 (v := ?_) (by kernel_rfl) (by kernel_rfl) (by kernel_rfl) (fun _ _ _ h => h) hHeld (by rfl) ?_ ?_
            rotate_left; · (intro w hSw; (try dsimp only at hSw); go_simp; try with_reducible rfl)
            try simp only [Act.put, List.setIfInBounds_toArray, List.set_cons_zero, List.set_cons_succ]
            refine takeH20 (v := ?_) (by kernel_rfl) (by kernel_rfl) (by kernel_rfl) (fun _ _ _ h => h) hHeld (by rfl) ?_ ?_
            rotate_left; · (intro w hSw; (try dsimp only at hSw); go_simp; try with_reducible rfl)
            try simp only [Act.put, List.setIfInBounds_toArray, List.set_cons_zero, List.set_cons_succ]
            refine twoH_0_21 (by kernel_rfl) (fun K hK => ?_) (fun K hK => ?_)
            go_simp
            refine hK.out _ _ (⟨q0, q1, q2, ko, kn, kp⟩) (fun hHeld => ?_)
            clear hK K
            try simp only [Act.put, List.setIfInBounds_toArray, List.set_cons_zero, List.set_cons_succ]
            refine callH21 (by kernel_rfl) (fun K hK => ?_)
            go_simp
            go_at_call 94
            refine (l1Copy An nn cn (gl g.2.1 k) _ _ (Nat.le_refl _) (rn.keep (keeps_below (by repeat (first | with_reducible exact hwr | with_reducible refine Below.drew ?_)))) hnn).mono ?_
            rintro e wc ⟨v, rfl, hv, hbc⟩
            replace hbc := below_undrew hbc
            obtain ⟨Av, cv, rfl⟩ := hv.form
            have hG2 := hG.move hbc
            have hwc := hG2.below
            have hX2 := hX.on hbc
            have g0 := hG2.c0
            have g1 := hG2.c1
            have g2 := hG2.c2
            have q0 : wc.cell? ⟨w.heap.size, 0, none⟩ = some (.slice (some ⟨bo, oo, none⟩) n0 c0) := hX2.cell 0
            have q1 : wc.cell? ⟨w.heap.size, 1, none⟩ = some (.slice (some ⟨bn, on, none⟩) n1 c1) := hX2.cell 1
            have q2 : wc.cell? ⟨w.heap.size, 2, none⟩ = some (.slice (some ⟨bp, op, none⟩) n2 c2) := hX2.cell 2
            have ko := below_cell hwc hco
            have kn := below_cell hwc hcn
            have kp := below_cell hwc hcp
            go_wp2_with fail
            refine hK.out _ _ (⟨q0, q1, q2, ko, kn, kp⟩) (fun hHeld => ?_)
            clear hK K
            try simp only [Act.put, List.setIfInBounds_toArray, List.set_cons_zero, List.set_cons_succ]
            refine callH22 (by kernel_rfl) (fun K hK => ?_)
            go_simp
            go_at_call 93
            refine (l14More _ _ _ _ _ _ _ _ wr _ (w2.heap.size + 1) hsz hG.own hbc (by exact hv) (raiseUp_small (by omega))).mono ?_
            rintro e wd ⟨t0, t1, t2, rfl, hod, hbd⟩
            obtain ⟨T0, d0, T1, d1, T2, d2, rfl, rfl, rfl⟩ := hod.form
            replace hbd := (hbc.mono hsz).trans hbd
            obtain ⟨k1, k2, k3, k4⟩ := hG.call hbd
            have hX3 := hX.below hbd (by omega)
            have m0 := k2.hot 0
            have m1 := k2.hot 1
            have m2 := k2.hot 2
            have r0 : wd.cell? ⟨w2.heap.size, 0, none⟩ = some (.slice U0 (raiseUp g by_ k).1.length v0) := k2.cell 0
            have r1 : wd.cell? ⟨w2.heap.size, 1, none⟩ = some (.slice U1 (raiseUp g by_ k).2.1.length v1) := k2.cell 1
            have r2 : wd.cell? ⟨w2.heap.size, 2, none⟩ = some (.slice U2 (raiseUp g by_ k).2.2.length v2) := k2.cell 2
            have q0 : wd.cell? ⟨w.heap.size, 0, none⟩ = some (.slice (some ⟨bo, oo, none⟩) n0 c0) := hX3.cell 0
            have q1 : wd.cell? ⟨w.heap.size, 1, none⟩ = some (.slice (some ⟨bn, on, none⟩) n1 c1) := hX3.cell 1
            have q2 : wd.cell? ⟨w.heap.size, 2, none⟩ = some (.slice (some ⟨bp, op, none⟩) n2 c2) := hX3.cell 2
            have ko := below_cell k3 hco
            have kn := below_cell k3 hcn
            have kp := below_cell k3 hcp
            go_wp2_with fail
            refine hK.out _ _ (⟨q0, q1, q2, ko, kn, kp⟩) (fun hHeld => ?_)
            clear hK K
            try simp only [Act.put, List.setIfInBounds_toArray, List.set_cons_zero, List.set_cons_succ]
            refine callH23 (by kernel_rfl) (fun K hK => ?_)
            go_simp
            refine hK.out _ _ (by refine ⟨?_, ?_, ?_, ?_, ?_, ?_⟩ <;> simp [World.cell?_setCell_other, *]) (fun hHeld => ?_)
            clear hK K
            try simp only [Act.put, List.setIfInBounds_toArray, List.set_cons_zero, List.set_cons_succ]
            refine wpAnyH_done (by kernel_rfl) ?_ _
            rotate_left
            go_simp
            go_at_call 94
            refine (l1Copy An nn cn (gl g.2.1 k) _ _ (Nat.le_refl _) (rn.keep (keeps_below (by repeat (first | with_reducible exact hwr | with_reducible refine Below.drew ?_)))) hnn).mono ?_
            rintro e wc ⟨v, rfl, hv, hbc⟩
            replace hbc := below_undrew hbc
            obtain ⟨Av, cv, rfl⟩ := hv.form
            have hG2 := hG.move hbc
            have hwc := hG2.below
            have hX2 := hX.on hbc
            have g0 := hG2.c0
            have g1 := hG2.c1
            have g2 := hG2.c2
            have q0 : wc.cell? ⟨w.heap.size, 0, none⟩ = some (.slice (some ⟨bo, oo, none⟩) n0 c0) := hX2.cell 0
            have q1 : wc.cell? ⟨w.heap.size, 1, none⟩ = some (.slice (some ⟨bn, on, none⟩) n1 c1) := hX2.cell 1
            have q2 : wc.cell? ⟨w.heap.size, 2, none⟩ = some (.slice (some ⟨bp, op, none⟩) n2 c2) := hX2.cell 2
            have ko := below_cell hwc hco
            have kn := below_cell hwc hcn
            have kp := below_cell hwc hcp
            go_wp2_with fail
            refine hK.out _ _ (⟨q0, q1, q2, ko, kn, kp⟩) (fun hHeld => ?_)
            clear hK K
            try simp only [Act.put, List.setIfInBounds_toArray, List.set_cons_zero, List.set_cons_succ]
            refine callH0 (by kernel_rfl) (fun K hK => ?_)
            go_simp
            refine hK.out _ _ (⟨q0, q1, q2, ko, kn, kp⟩) (fun hHeld => ?_)
            clear hK K
            try simp only [Act.put, List.setIfInBounds_toArray, List.set_cons_zero, List.set_cons_succ]
            refine callH22 (by kernel_rfl) (fun K hK => ?_)
            go_simp
            go_at_call 93
            refine (l14More _ _ _ _ _ _ _ _ wr _ (w2.heap.size + 1) hsz hG.own hbc (by exact hv) (raiseUp_small (by omega))).mono ?_
            rintro e wd ⟨t0, t1, t2, rfl, hod, hbd⟩
            obtain ⟨T0, d0, T1, d1, T2, d2, rfl, rfl, rfl⟩ := hod.form
            replace hbd := (hbc.mono hsz).trans hbd
            obtain ⟨k1, k2, k3, k4⟩ := hG.call hbd
            have hX3 := hX.below hbd (by omega)
            have m0 := k2.hot 0
            have m1 := k2.hot 1
            have m2 := k2.hot 2
            have r0 : wd.cell? ⟨w2.heap.size, 0, none⟩ = some (.slice U0 (raiseUp g by_ k).1.length v0) := k2.cell 0
            have r1 : wd.cell? ⟨w2.heap.size, 1, none⟩ = some (.slice U1 (raiseUp g by_ k).2.1.length v1) := k2.cell 1
            have r2 : wd.cell? ⟨w2.heap.size, 2, none⟩ = some (.slice U2 (raiseUp g by_ k).2.2.length v2) := k2.cell 2
            have q0 : wd.cell? ⟨w.heap.size, 0, none⟩ = some (.slice (some ⟨bo, oo, none⟩) n0 c0) := hX3.cell 0
            have q1 : wd.cell? ⟨w.heap.size, 1, none⟩ = some (.slice (some ⟨bn, on, none⟩) n1 c1) := hX3.cell 1
            have q2 : wd.cell? ⟨w.heap.size, 2, none⟩ = some (.slice (some ⟨bp, op, none⟩) n2 c2) := hX3.cell 2
            have ko := below_cell k3 hco
            have kn := below_cell k3 hcn
            have kp := below_cell k3 hcp
            go_wp2_with fail
            refine hK.out _ _ (⟨q0, q1, q2, ko, kn, kp⟩) (fun hHeld => ?_)
            clear hK K
            try simp only [Act.put, List.setIfInBounds_toArray, List.set_cons_zero, List.set_cons_succ]
            refine callH23 (by kernel_rfl) (fun K hK => ?_)
            go_simp
            refine hK.out _ _ (by refine ⟨?_, ?_, ?_, ?_, ?_, ?_⟩ <;> simp [World.cell?_setCell_other, *]) (fun hHeld => ?_)
            clear hK K
            try simp only [Act.put, List.setIfInBounds_toArray, List.set_cons_zero, List.set_cons_succ]
            refine wpAnyH_done (by kernel_rfl) ?_ _
            rotate_left
            all_goals
              have hG4 := hG.store hbd hod
              have hX4 := hX3.far3 (b' := w2.heap.size) (by omega) (.slice T0 (addV (raiseUp g by_ k) (gi g.1 k) (gi g.2.2 k + 2 * by_) (gl g.2.1 k)).1.length d0) (.slice T1 (addV (raiseUp g by_ k) (gi g.1 k) (gi g.2.2 k + 2 * by_) (gl g.2.1 k)).2.1.length d1) (.slice T2 (addV (raiseUp g by_ k) (gi g.1 k) (gi g.2.2 k + 2 * by_) (gl g.2.1 k)).2.2.length d2)
              have HG4 := Lib.hid hG4; have HX4 := Lib.hid hX4
              clear hG4 hX4
              go_wp2
              exact ⟨⟨k + 1, _, _, _, by omega, by go_num, all_succ HA.out HGT.out, by rw [HN.out]; exact HG4.out, HX4.out⟩, by simp [intOf]; omega⟩
          · have E := Lib.hid (raise_top (g := g) (by_ := by_) (fun h => hgt (h k (by rw [HP.out]; exact hlt))))
            have E2 := Lib.hid (raiseG_no E.out)
            have hnd : 40 < gi g.2.2 k + 2 * by_ := by omega
            clear hgt hpr
            have brL := hG.zero
            have z0 : wr.cell? ⟨w.heap.size + 1, 0, none⟩ = some (.slice none 0 0) := brL.cell 0; have f0 := brL.hot 0; have z1 : wr.cell? ⟨w.heap.size + 1, 1, none⟩ = some (.slice none 0 0) := brL.cell 1; have f1 := brL.hot 1; have z2 : wr.cell? ⟨w.heap.size + 1, 2, none⟩ = some (.slice none 0 0) := brL.cell 2; have f2 := brL.hot 2
            go_wp2
            obtain ⟨hwZ, bxZ⟩ := zero3 hwr (by omega) brL (.slice none 0 0) (.slice none 0 0) (.slice none 0 0)
            have R0 := bxZ.cell 0; have R1 := bxZ.cell 1; have R2 := bxZ.cell 2
            simp only [List.getElem?_toArray, List.getElem?_cons_zero, List.getElem?_cons_succ] at R0 R1 R2
            exact bodyPost_ret (v := .tuple #[.agg #[.slice none 0 0, .slice none 0 0, .slice none 0 0], .bool false]) (by simp [results, Try.results32, go_sem, R0, R1, R2]) rfl ⟨_, _, _, by rw [E.out], by rw [E2.out]; exact OPar.nil _ _, hwZ.mono hB⟩
        · obtain rfl : k = n2 := by omega
          have E := Lib.hid (raise_yes HPB.out HBY.out (by rw [HP.out]; exact HA.out))
          have E2 := Lib.hid (show raiseG g by_ = raiseUp g by_ k by rw [raiseG_yes E.out, HP.out])
          obtain ⟨U0, v0, U1, v1, U2, v2, rfl, rfl, rfl⟩ := hG.own.form
          have g0 := hG.c0; have g1 := hG.c1; have g2 := hG.c2
          have brL := hG.zero
          have z0 : wr.cell? ⟨w.heap.size + 1, 0, none⟩ = some (.slice none 0 0) := brL.cell 0; have f0 := brL.hot 0; have z1 : wr.cell? ⟨w.heap.size + 1, 1, none⟩ = some (.slice none 0 0) := brL.cell 1; have f1 := brL.hot 1; have z2 : wr.cell? ⟨w.heap.size + 1, 2, none⟩ = some (.slice none 0 0) := brL.cell 2; have f2 := brL.hot 2
          obtain ⟨hF1, hF2, hF3⟩ := hG.fin
          have R0 := hF3.cell 0; have R1 := hF3.cell 1; have R2 := hF3.cell 2
          simp only [List.getElem?_toArray, List.getElem?_cons_zero, List.getElem?_cons_succ] at R0 R1 R2
          go_wp2
          exact bodyPost_ret (v := .tuple #[.agg #[.slice U0 (raiseUp g by_ k).1.length v0, .slice U1 (raiseUp g by_ k).2.1.length v1, .slice U2 (raiseUp g by_ k).2.2.length v2], .bool true]) (by simp [results, Try.results32, go_sem, R0, R1, R2]) rfl ⟨_, _, _, by rw [E.out], by rw [E2.out]; exact hF1.more (by omega), hF2.mono hB⟩


theorem OPar.setP {w : World} {lo : Nat} {s0 s1 : Value} {b c i : Nat} {g : ParD} (h : OPar w lo s0 s1 (.slice (some ⟨b, 0, none⟩) g.2.2.length c) g) (x : Int) :
    OPar (w.setCell ⟨b, i, none⟩ (.int .i64 x)) lo s0 s1 (.slice (some ⟨b, 0, none⟩) g.2.2.length c) (g.1, g.2.1, g.2.2.set i x) := by
  obtain ⟨cs, h1, h2, h3⟩ := h
  have ch := Chg.one (w := w) b i (.int .i64 x)
  have hap : ∀ u, Apart u (.slice (some ⟨b, 0, none⟩) g.2.2.length c) → ∀ z, u.ownBlock = some z → ¬ z = b := fun u hu z hz e => by
    subst e
    rcases hu with hu | hu
    · rw [hu] at hz; cases hz
    · exact hu (hz.trans rfl)
  have d0 : Apart s0 (.slice (some ⟨b, 0, none⟩) g.2.2.length c) := by
    have := h3 0 1 (by simp) (by simp) (by omega)
    simpa [gv] using this
  have dc : ∀ j, j < cs.length → Apart (gv cs j) (.slice (some ⟨b, 0, none⟩) g.2.2.length c) := fun j hj => by
    have := h3 (j + 2) 1 (by simp; omega) (by simp) (by omega)
    simpa [gv] using this
  refine ⟨cs, ⟨h1.1.chg ch (fun z hz hs => hap _ d0 z hz hs), row_chg h1.2.1 ch (fun z hz hs => own_ne h2 h1.2.1 (by decide) z (by have hs' : z = b := hs; rw [hs']; rfl) hz), fun j hj => (h1.2.2 j hj).chg ch (fun z hz hs => hap _ (dc j hj) z hz hs)⟩, ?_, h3⟩
  have := h2.set_ (i := i) rfl x
  simpa using this
theorem topUp_all {p : List Int} {n : Nat} (hp : ∀ j, j < n → 0 ≤ gi p j) : ∀ {k : Nat}, k ≤ n → (∀ j, j < k → gi p j ≤ topUp p (allL n) k) ∧ ((k = 0 ∧ topUp p (allL n) k = -1) ∨ ∃ j, j < k ∧ topUp p (allL n) k = gi p j)
  | 0, _ => ⟨by omega, .inl ⟨rfl, rfl⟩⟩
  | k + 1, hk => by
    obtain ⟨h1, h2⟩ := topUp_all hp (k := k) (by omega)
    have e : (gi (allL n) k).toNat = k := by rw [gi_all (by omega)]; omega
    rw [topUp, e]
    by_cases hc : topUp p (allL n) k < gi p k
    · rw [if_pos hc]
      refine ⟨fun j hj => ?_, .inr ⟨k, by omega, rfl⟩⟩
      by_cases ej : j = k
      · subst ej; exact Int.le_refl _
      · have := h1 j (by omega); omega
    · rw [if_neg hc]
      refine ⟨fun j hj => ?_, .inr ?_⟩
      · by_cases ej : j = k
        · subst ej; omega
        · exact h1 j (by omega)
      · rcases h2 with ⟨_, h2⟩ | ⟨j, hj, e2⟩
        · have := hp k (by omega); omega
        · exact ⟨j, by omega, e2⟩
theorem topL_all {p : List Int} {n : Nat} (hp : ∀ j, j < n → 0 ≤ gi p j) (hn : 0 < n) (c : Int) : topL p (allL n) + c ≤ 40 ↔ ∀ j, j < n → gi p j + c ≤ 40 := by
  unfold topL
  rw [allL_len]
  obtain ⟨h1, h2⟩ := topUp_all hp (Nat.le_refl n)
  constructor
  · intro h j hj
    have := h1 j hj; omega
  · intro h
    rcases h2 with ⟨h2, _⟩ | ⟨j, hj, e⟩
    · omega
    · have := h j hj; omega
def raiseL (p : List Int) (by_ : Int) (k : Nat) : List Int := fillUp (fun i => gi p i + 2 * by_) p.length (gi p) k
theorem raiseL_zero (p : List Int) (by_ : Int) : raiseL p by_ 0 = p := by
  unfold raiseL
  rw [fillUp_zero]
  exact gi_ext (fill_len _ _) fun j hj => by rw [fill_len] at hj; rw [fill_at hj]
theorem raiseL_full (p : List Int) (by_ : Int) : raiseL p by_ p.length = p.map (· + 2 * by_) := by
  unfold raiseL
  rw [fillUp_full]
  refine gi_ext (by rw [fill_len, List.length_map]) fun j hj => ?_
  rw [fill_len] at hj
  rw [fill_at hj, gi_get (xs := p.map (· + 2 * by_)) (by rw [List.length_map]; exact hj), List.getElem_map, gi_get hj]
theorem raiseL_len (p : List Int) (by_ : Int) (k : Nat) : (raiseL p by_ k).length = p.length := fillUp_len _ _ _ _
theorem raiseL_put {p : List Int} {by_ : Int} {k : Nat} (h : k < p.length) : (raiseL p by_ k).set k (gi p k + 2 * by_) = raiseL p by_ (k + 1) := fillUp_put (f := fun i => gi p i + 2 * by_) h
theorem raiseL_at {p : List Int} {by_ : Int} {k : Nat} (h : k < p.length) : gi (raiseL p by_ k) k = gi p k := by unfold raiseL; rw [fillUp_at h, if_neg (Nat.lt_irrefl _)]


set_option maxRecDepth 100000 in
set_option maxHeartbeats 1600000 in
theorem implRaisedGame (s0 s1 s2 : Value) (g : ParD) (by_ : Int) (w : World) (B : Nat) (hB : B ≤ w.heap.size) (ha : RPv w s0 s1 s2 g) :
    Calls Try.prog 33 #[.agg #[s0, s1, s2], .int .i64 by_] w fun e w' => ∃ t0 t1 t2, e = .returned (.tuple #[.agg #[t0, t1, t2], .bool (okRaise g by_)]) ∧ OPar w' B t0 t1 t2 (raiseG g by_) ∧ Below B w w' := by
  have har := ha
  obtain ⟨A0, n0, c0, A1, n1, c1, A2, n2, c2, rfl, rfl, rfl⟩ := ha.form
  have hr := ha.ri; have hrr := ha.rii; have hrp := ha.rp
  have b1 := hr.cap; have b2 := hr.top; have b3 := hrr.cap; have b4 := hrr.top; have b5 := hrp.cap; have b6 := hrp.top
  have HL := Lib.hid hr.len; have HM := Lib.hid hrr.len; have HP := Lib.hid hrp.len
  have hwL : Below w.heap.size w ((w.alloc (.cells #[.slice A0 n0 c0, .slice A1 n1 c1, .slice A2 n2 c2] 44)).alloc (.cells #[.slice none 0 0, .slice none 0 0, .slice none 0 0] 44)) := below_alloc (Nat.le_refl _) (below_alloc (Nat.le_refl _) (Below.refl _ _))
  have bxL := (Box.new w 44 #[.slice A0 n0 c0, .slice A1 n1 c1, .slice A2 n2 c2]).alloc (.cells #[.slice none 0 0, .slice none 0 0, .slice none 0 0] 44)
  have brL : Box ((w.alloc (.cells #[.slice A0 n0 c0, .slice A1 n1 c1, .slice A2 n2 c2] 44)).alloc (.cells #[.slice none 0 0, .slice none 0 0, .slice none 0 0] 44)) (w.heap.size + 1) 44 #[.slice none 0 0, .slice none 0 0, .slice none 0 0] := Box.new' (by simp)
  cases hp : parB g with
  | false =>
    have E := Lib.hid (raise_par (by_ := by_) hp)
    have E2 := Lib.hid (raiseG_no E.out)
    have HPB := Lib.hid hp
    clear hp
    have q0 : ((w.alloc (.cells #[.slice A0 n0 c0, .slice A1 n1 c1, .slice A2 n2 c2] 44)).alloc (.cells #[.slice none 0 0, .slice none 0 0, .slice none 0 0] 44)).cell? ⟨w.heap.size, 0, none⟩ = some (.slice A0 n0 c0) := bxL.cell 0; have q1 : ((w.alloc (.cells #[.slice A0 n0 c0, .slice A1 n1 c1, .slice A2 n2 c2] 44)).alloc (.cells #[.slice none 0 0, .slice none 0 0, .slice none 0 0] 44)).cell? ⟨w.heap.size, 1, none⟩ = some (.slice A1 n1 c1) := bxL.cell 1; have q2 : ((w.alloc (.cells #[.slice A0 n0 c0, .slice A1 n1 c1, .slice A2 n2 c2] 44)).alloc (.cells #[.slice none 0 0, .slice none 0 0, .slice none 0 0] 44)).cell? ⟨w.heap.size, 2, none⟩ = some (.slice A2 n2 c2) := bxL.cell 2
    go_enter Try.func33, Try.ntmps33
    go_wp2_with fail
    generalize ((w.alloc (.cells #[.slice A0 n0 c0, .slice A1 n1 c1, .slice A2 n2 c2] 44)).alloc (.cells #[.slice none 0 0, .slice none 0 0, .slice none 0 0] 44)) = W at *
    refine wp_region_held_drew (S := (fun w' => w'.cell? ⟨w.heap.size, 0, none⟩ = some (.slice A0 n0 c0) ∧ w'.cell? ⟨w.heap.size, 1, none⟩ = some (.slice A1 n1 c1) ∧ w'.cell? ⟨w.heap.size, 2, none⟩ = some (.slice A2 n2 c2))) (by kernel_rfl) (⟨q0, q1, q2⟩) (fun hHeld => ?_)
    refine takeH0 (v := ?_) (by kernel_rfl) (by kernel_rfl) (by kernel_rfl) (fun _ _ _ h => h) hHeld (by rfl) ?_ ?_
    rotate_left; · (intro w hSw; (try dsimp only at hSw); go_simp; try with_reducible rfl)
    try simp only [Act.put, List.setIfInBounds_toArray, List.set_cons_zero, List.set_cons_succ]
    refine callH1 (by kernel_rfl) (fun K hK => ?_)
    go_simp
    go_at_call 95
    refine (implParityOk _ _ _ g _ _ (Nat.le_refl _) (har.keep (keeps_below (Below.drew hwL)))).mono ?_
    rintro e w1 ⟨rfl, hb1⟩
    rw [HPB.out]
    replace hb1 := below_undrew hb1
    have hw1 := below_then hb1 hwL.size hwL
    have br1 := brL.on hb1
    have bx1 := bxL.on hb1
    have q0 : w1.cell? ⟨w.heap.size, 0, none⟩ = some (.slice A0 n0 c0) := bx1.cell 0
    have q1 : w1.cell? ⟨w.heap.size, 1, none⟩ = some (.slice A1 n1 c1) := bx1.cell 1
    have q2 : w1.cell? ⟨w.heap.size, 2, none⟩ = some (.slice A2 n2 c2) := bx1.cell 2
    go_wp2_with fail
    refine hK.out _ _ (⟨q0, q1, q2⟩) (fun hHeld => ?_)
    clear hK K
    try simp only [Act.put, List.setIfInBounds_toArray, List.set_cons_zero, List.set_cons_succ]
    refine takeH2 (v := ?_) (by kernel_rfl) (by kernel_rfl) (by kernel_rfl) (fun _ _ _ h => h) hHeld (by rfl) ?_ ?_
    rotate_left; · (intro w hSw; (try dsimp only at hSw); go_simp; try with_reducible rfl)
    try simp only [Act.put, List.setIfInBounds_toArray, List.set_cons_zero, List.set_cons_succ]
    refine takeH3 (v := ?_) (by kernel_rfl) (by kernel_rfl) (by kernel_rfl) (fun _ _ _ h => h) hHeld (by rfl) ?_ ?_
    rotate_left; · (intro w hSw; (try dsimp only at hSw); go_simp; try with_reducible rfl)
    try simp only [Act.put, List.setIfInBounds_toArray, List.set_cons_zero, List.set_cons_succ]
    refine skipH4 (by kernel_rfl) (by kernel_rfl) (by kernel_rfl) (fun _ _ _ h => h) hHeld (by rfl) ?_
    try simp only [Act.put, List.setIfInBounds_toArray, List.set_cons_zero, List.set_cons_succ]
    refine skipH5 (by kernel_rfl) (by kernel_rfl) (by kernel_rfl) (fun _ _ _ h => h) hHeld (by rfl) ?_
    try simp only [Act.put, List.setIfInBounds_toArray, List.set_cons_zero, List.set_cons_succ]
    refine takeH6 (v := ?_) (by kernel_rfl) (by kernel_rfl) (by kernel_rfl) (fun _ _ _ h => h) hHeld (by rfl) ?_ ?_
    rotate_left; · (intro w hSw; (try dsimp only at hSw); go_simp; try with_reducible rfl)
    try simp only [Act.put, List.setIfInBounds_toArray, List.set_cons_zero, List.set_cons_succ]
    refine takeH7 (v := ?_) (by kernel_rfl) (by kernel_rfl) (by kernel_rfl) (fun _ _ _ h => h) hHeld (by rfl) ?_ ?_
    rotate_left; · (intro w hSw; (try dsimp only at hSw); go_simp; try with_reducible rfl)
    try simp only [Act.put, List.setIfInBounds_toArray, List.set_cons_zero, List.set_cons_succ]
    refine skipH8 (by kernel_rfl) (by kernel_rfl) (by kernel_rfl) (fun _ _ _ h => h) hHeld (by rfl) ?_
    try simp only [Act.put, List.setIfInBounds_toArray, List.set_cons_zero, List.set_cons_succ]
    refine skipH9 (by kernel_rfl) (by kernel_rfl) (by kernel_rfl) (fun _ _ _ h => h) hHeld (by rfl) ?_
    try simp only [Act.put, List.setIfInBounds_toArray, List.set_cons_zero, List.set_cons_succ]
    refine takeH10 (v := ?_) (by kernel_rfl) (by kernel_rfl) (by kernel_rfl) (fun _ _ _ h => h) hHeld (by rfl) ?_ ?_
    rotate_left; · (intro w hSw; (try dsimp only at hSw); go_simp; try with_reducible rfl)
    try simp only [Act.put, List.setIfInBounds_toArray, List.set_cons_zero, List.set_cons_succ]
    refine takeH11 (v := ?_) (by kernel_rfl) (by kernel_rfl) (by kernel_rfl) (fun _ _ _ h => h) hHeld (by rfl) ?_ ?_
    rotate_left; · (intro w hSw; (try dsimp only at hSw); go_simp; try with_reducible rfl)
    try simp only [Act.put, List.setIfInBounds_toArray, List.set_cons_zero, List.set_cons_succ]
    refine skipH12 (by kernel_rfl) (by kernel_rfl) (by kernel_rfl) (fun _ _ _ h => h) hHeld (by rfl) ?_
    try simp only [Act.put, List.setIfInBounds_toArray, List.set_cons_zero, List.set_cons_succ]
    refine skipH13 (by kernel_rfl) (by kernel_rfl) (by kernel_rfl) (fun _ _ _ h => h) hHeld (by rfl) ?_
    try simp only [Act.put, List.setIfInBounds_toArray, List.set_cons_zero, List.set_cons_succ]
    refine skipH14 (by kernel_rfl) (by kernel_rfl) (by kernel_rfl) (fun _ _ _ h => h) hHeld (by rfl) ?_
    try simp only [Act.put, List.setIfInBounds_toArray, List.set_cons_zero, List.set_cons_succ]
    refine skipH15 (by kernel_rfl) (by kernel_rfl) (by kernel_rfl) (fun _ _ _ h => h) hHeld (by rfl) ?_
    try simp only [Act.put, List.setIfInBounds_toArray, List.set_cons_zero, List.set_cons_succ]
    refine skipH16 (by kernel_rfl) (by kernel_rfl) (by kernel_rfl) (fun _ _ _ h => h) hHeld (by rfl) ?_
    try simp only [Act.put, List.setIfInBounds_toArray, List.set_cons_zero, List.set_cons_succ]
    refine skipH17 (by kernel_rfl) (by kernel_rfl) (by kernel_rfl) (fun _ _ _ h => h) hHeld (by rfl) ?_
    try simp only [Act.put, List.setIfInBounds_toArray, List.set_cons_zero, List.set_cons_succ]
    refine skipH18 (by kernel_rfl) (by kernel_rfl) (by kernel_rfl) (fun _ _ _ h => h) hHeld (by rfl) ?_
    try simp only [Act.put, List.setIfInBounds_toArray, List.set_cons_zero, List.set_cons_succ]
    refine skipH19 (by kernel_rfl) (by kernel_rfl) (by kernel_rfl) (fun _ _ _ h => h) hHeld (by rfl) ?_
    try simp only [Act.put, List.setIfInBounds_toArray, List.set_cons_zero, List.set_cons_succ]
    refine skipH20 (by kernel_rfl) (by kernel_rfl) (by kernel_rfl) (fun _ _ _ h => h) hHeld (by rfl) ?_
    try simp only [Act.put, List.setIfInBounds_toArray, List.set_cons_zero, List.set_cons_succ]
    refine takeH21 (v := ?_) (by kernel_rfl) (by kernel_rfl) (by kernel_rfl) (fun _ _ _ h => h) hHeld (by rfl) ?_ ?_
    rotate_left; · (intro w hSw; (try dsimp only at hSw); go_simp; try with_reducible rfl)
    try simp only [Act.put, List.setIfInBounds_toArray, List.set_cons_zero, List.set_cons_succ]
    refine wpAnyH_done (by kernel_rfl) ?_ _
    all_goals
      have brX := br1
      clear q0 q1 q2
      have z0 : w1.cell? ⟨w.heap.size + 1, 0, none⟩ = some (.slice none 0 0) := brX.cell 0; have f0 := brX.hot 0; have z1 : w1.cell? ⟨w.heap.size + 1, 1, none⟩ = some (.slice none 0 0) := brX.cell 1; have f1 := brX.hot 1; have z2 : w1.cell? ⟨w.heap.size + 1, 2, none⟩ = some (.slice none 0 0) := brX.cell 2; have f2 := brX.hot 2
      go_wp2
      obtain ⟨hwZ, bxZ⟩ := zero3 hw1 (by omega) brX (.slice none 0 0) (.slice none 0 0) (.slice none 0 0)
      have R0 := bxZ.cell 0; have R1 := bxZ.cell 1; have R2 := bxZ.cell 2
      simp only [List.getElem?_toArray, List.getElem?_cons_zero, List.getElem?_cons_succ] at R0 R1 R2
      exact bodyPost_ret (v := .tuple #[.agg #[.slice none 0 0, .slice none 0 0, .slice none 0 0], .bool false]) (by simp [results, Try.results33, go_sem, R0, R1, R2]) rfl ⟨_, _, _, by rw [E.out], by rw [E2.out]; exact OPar.nil _ _, hwZ.mono hB⟩
  | true =>
    have HPB := Lib.hid hp
    have hf := finePar_of hp
    have hn0 := hf.1.2.1; have hn1 := hf.1.2.2.1; have hn2 := hf.2.1; have hm0 := hf.1.1
    rw [HL.out] at hn0 hn1 hn2 hm0
    rw [HM.out] at hn1
    rw [HP.out] at hn2
    have HF := Lib.hid hf
    have H10 := Lib.hid hn1; have H20 := Lib.hid hn2
    clear hp hf hn1 hn2
    by_cases y1 : by_ < 0
    · have E := Lib.hid (raise_by (g := g) (by_ := by_) (decide_eq_false (by omega)))
      have E2 := Lib.hid (raiseG_no E.out)
      have d1 : decide (by_ < 0) = true := decide_eq_true y1
      have q0 : ((w.alloc (.cells #[.slice A0 n0 c0, .slice A1 n1 c1, .slice A2 n2 c2] 44)).alloc (.cells #[.slice none 0 0, .slice none 0 0, .slice none 0 0] 44)).cell? ⟨w.heap.size, 0, none⟩ = some (.slice A0 n0 c0) := bxL.cell 0; have q1 : ((w.alloc (.cells #[.slice A0 n0 c0, .slice A1 n1 c1, .slice A2 n2 c2] 44)).alloc (.cells #[.slice none 0 0, .slice none 0 0, .slice none 0 0] 44)).cell? ⟨w.heap.size, 1, none⟩ = some (.slice A1 n1 c1) := bxL.cell 1; have q2 : ((w.alloc (.cells #[.slice A0 n0 c0, .slice A1 n1 c1, .slice A2 n2 c2] 44)).alloc (.cells #[.slice none 0 0, .slice none 0 0, .slice none 0 0] 44)).cell? ⟨w.heap.size, 2, none⟩ = some (.slice A2 n2 c2) := bxL.cell 2
      go_enter Try.func33, Try.ntmps33
      go_wp2_with fail
      generalize ((w.alloc (.cells #[.slice A0 n0 c0, .slice A1 n1 c1, .slice A2 n2 c2] 44)).alloc (.cells #[.slice none 0 0, .slice none 0 0, .slice none 0 0] 44)) = W at *
      refine wp_region_held_drew (S := (fun w' => w'.cell? ⟨w.heap.size, 0, none⟩ = some (.slice A0 n0 c0) ∧ w'.cell? ⟨w.heap.size, 1, none⟩ = some (.slice A1 n1 c1) ∧ w'.cell? ⟨w.heap.size, 2, none⟩ = some (.slice A2 n2 c2))) (by kernel_rfl) (⟨q0, q1, q2⟩) (fun hHeld => ?_)
      refine takeH0 (v := ?_) (by kernel_rfl) (by kernel_rfl) (by kernel_rfl) (fun _ _ _ h => h) hHeld (by rfl) ?_ ?_
      rotate_left; · (intro w hSw; (try dsimp only at hSw); go_simp; try with_reducible rfl)
      try simp only [Act.put, List.setIfInBounds_toArray, List.set_cons_zero, List.set_cons_succ]
      refine callH1 (by kernel_rfl) (fun K hK => ?_)
      go_simp
      go_at_call 95
      refine (implParityOk _ _ _ g _ _ (Nat.le_refl _) (har.keep (keeps_below (Below.drew hwL)))).mono ?_
      rintro e w1 ⟨rfl, hb1⟩
      rw [HPB.out]
      replace hb1 := below_undrew hb1
      have hw1 := below_then hb1 hwL.size hwL
      have br1 := brL.on hb1
      have bx1 := bxL.on hb1
      have q0 : w1.cell? ⟨w.heap.size, 0, none⟩ = some (.slice A0 n0 c0) := bx1.cell 0
      have q1 : w1.cell? ⟨w.heap.size, 1, none⟩ = some (.slice A1 n1 c1) := bx1.cell 1
      have q2 : w1.cell? ⟨w.heap.size, 2, none⟩ = some (.slice A2 n2 c2) := bx1.cell 2
      go_wp2_with fail
      refine hK.out _ _ (⟨q0, q1, q2⟩) (fun hHeld => ?_)
      clear hK K
      try simp only [Act.put, List.setIfInBounds_toArray, List.set_cons_zero, List.set_cons_succ]
      refine takeH2 (v := ?_) (by kernel_rfl) (by kernel_rfl) (by kernel_rfl) (fun _ _ _ h => h) hHeld (by rfl) ?_ ?_
      rotate_left; · (intro w hSw; (try dsimp only at hSw); go_simp; try with_reducible rfl)
      try simp only [Act.put, List.setIfInBounds_toArray, List.set_cons_zero, List.set_cons_succ]
      refine takeH3 (v := ?_) (by kernel_rfl) (by kernel_rfl) (by kernel_rfl) (fun _ _ _ h => h) hHeld (by rfl) ?_ ?_
      rotate_left; · (intro w hSw; (try dsimp only at hSw); go_simp; try with_reducible rfl)
      try simp only [Act.put, List.setIfInBounds_toArray, List.set_cons_zero, List.set_cons_succ]
      refine takeH4 (v := ?_) (by kernel_rfl) (by kernel_rfl) (by kernel_rfl) (fun _ _ _ h => h) hHeld (by rfl) ?_ ?_
      rotate_left; · (intro w hSw; (try dsimp only at hSw); go_simp; try with_reducible rfl)
      try simp only [Act.put, List.setIfInBounds_toArray, List.set_cons_zero, List.set_cons_succ]
      refine takeH5 (v := ?_) (by kernel_rfl) (by kernel_rfl) (by kernel_rfl) (fun _ _ _ h => h) hHeld (by rfl) ?_ ?_
      rotate_left; · (intro w hSw; (try dsimp only at hSw); go_simp; try with_reducible rfl)
      try simp only [Act.put, List.setIfInBounds_toArray, List.set_cons_zero, List.set_cons_succ]
      refine takeH6 (v := ?_) (by kernel_rfl) (by kernel_rfl) (by kernel_rfl) (fun _ _ _ h => h) hHeld (by rfl) ?_ ?_
      rotate_left; · (intro w hSw; (try dsimp only at hSw); go_simp; try with_reducible rfl)
      try simp only [Act.put, List.setIfInBounds_toArray, List.set_cons_zero, List.set_cons_succ]
      refine takeH7 (v := ?_) (by kernel_rfl) (by kernel_rfl) (by kernel_rfl) (fun _ _ _ h => h) hHeld (by rfl) ?_ ?_
      rotate_left; · (intro w hSw; (try dsimp only at hSw); go_simp; try with_reducible rfl)
      try simp only [Act.put, List.setIfInBounds_toArray, List.set_cons_zero, List.set_cons_succ]
      refine skipH8 (by kernel_rfl) (by kernel_rfl) (by kernel_rfl) (fun _ _ _ h => h) hHeld (by rfl) ?_
      try simp only [Act.put, List.setIfInBounds_toArray, List.set_cons_zero, List.set_cons_succ]
      refine skipH9 (by kernel_rfl) (by kernel_rfl) (by kernel_rfl) (fun _ _ _ h => h) hHeld (by rfl) ?_
      try simp only [Act.put, List.setIfInBounds_toArray, List.set_cons_zero, List.set_cons_succ]
      refine takeH10 (v := ?_) (by kernel_rfl) (by kernel_rfl) (by kernel_rfl) (fun _ _ _ h => h) hHeld (by rfl) ?_ ?_
      rotate_left; · (intro w hSw; (try dsimp only at hSw); go_simp; try with_reducible rfl)
      try simp only [Act.put, List.setIfInBounds_toArray, List.set_cons_zero, List.set_cons_succ]
      refine takeH11 (v := ?_) (by kernel_rfl) (by kernel_rfl) (by kernel_rfl) (fun _ _ _ h => h) hHeld (by rfl) ?_ ?_
      rotate_left; · (intro w hSw; (try dsimp only at hSw); go_simp; try with_reducible rfl)
      try simp only [Act.put, List.setIfInBounds_toArray, List.set_cons_zero, List.set_cons_succ]
      refine skipH12 (by kernel_rfl) (by kernel_rfl) (by kernel_rfl) (fun _ _ _ h => h) hHeld (by rfl) ?_
      try simp only [Act.put, List.setIfInBounds_toArray, List.set_cons_zero, List.set_cons_succ]
      refine skipH13 (by kernel_rfl) (by kernel_rfl) (by kernel_rfl) (fun _ _ _ h => h) hHeld (by rfl) ?_
      try simp only [Act.put, List.setIfInBounds_toArray, List.set_cons_zero, List.set_cons_succ]
      refine skipH14 (by kernel_rfl) (by kernel_rfl) (by kernel_rfl) (fun _ _ _ h => h) hHeld (by rfl) ?_
      try simp only [Act.put, List.setIfInBounds_toArray, List.set_cons_zero, List.set_cons_succ]
      refine skipH15 (by kernel_rfl) (by kernel_rfl) (by kernel_rfl) (fun _ _ _ h => h) hHeld (by rfl) ?_
      try simp only [Act.put, List.setIfInBounds_toArray, List.set_cons_zero, List.set_cons_succ]
      refine skipH16 (by kernel_rfl) (by kernel_rfl) (by kernel_rfl) (fun _ _ _ h => h) hHeld (by rfl) ?_
      try simp only [Act.put, List.setIfInBounds_toArray, List.set_cons_zero, List.set_cons_succ]
      refine skipH17 (by kernel_rfl) (by kernel_rfl) (by kernel_rfl) (fun _ _ _ h => h) hHeld (by rfl) ?_
      try simp only [Act.put, List.setIfInBounds_toArray, List.set_cons_zero, List.set_cons_succ]
      refine skipH18 (by kernel_rfl) (by kernel_rfl) (by kernel_rfl) (fun _ _ _ h => h) hHeld (by rfl) ?_
      try simp only [Act.put, List.setIfInBounds_toArray, List.set_cons_zero, List.set_cons_succ]
      refine skipH19 (by kernel_rfl) (by kernel_rfl) (by kernel_rfl) (fun _ _ _ h => h) hHeld (by rfl) ?_
      try simp only [Act.put, List.setIfInBounds_toArray, List.set_cons_zero, List.set_cons_succ]
      refine skipH20 (by kernel_rfl) (by kernel_rfl) (by kernel_rfl) (fun _ _ _ h => h) hHeld (by rfl) ?_
      try simp only [Act.put, List.setIfInBounds_toArray, List.set_cons_zero, List.set_cons_succ]
      refine takeH21 (v := ?_) (by kernel_rfl) (by kernel_rfl) (by kernel_rfl) (fun _ _ _ h => h) hHeld (by rfl) ?_ ?_
      rotate_left; · (intro w hSw; (try dsimp only at hSw); go_simp; try with_reducible rfl)
      try simp only [Act.put, List.setIfInBounds_toArray, List.set_cons_zero, List.set_cons_succ]
      refine wpAnyH_done (by kernel_rfl) ?_ _
      all_goals
        have brX := br1
        clear q0 q1 q2
        have z0 : w1.cell? ⟨w.heap.size + 1, 0, none⟩ = some (.slice none 0 0) := brX.cell 0; have f0 := brX.hot 0; have z1 : w1.cell? ⟨w.heap.size + 1, 1, none⟩ = some (.slice none 0 0) := brX.cell 1; have f1 := brX.hot 1; have z2 : w1.cell? ⟨w.heap.size + 1, 2, none⟩ = some (.slice none 0 0) := brX.cell 2; have f2 := brX.hot 2
        go_wp2
        obtain ⟨hwZ, bxZ⟩ := zero3 hw1 (by omega) brX (.slice none 0 0) (.slice none 0 0) (.slice none 0 0)
        have R0 := bxZ.cell 0; have R1 := bxZ.cell 1; have R2 := bxZ.cell 2
        simp only [List.getElem?_toArray, List.getElem?_cons_zero, List.getElem?_cons_succ] at R0 R1 R2
        exact bodyPost_ret (v := .tuple #[.agg #[.slice none 0 0, .slice none 0 0, .slice none 0 0], .bool false]) (by simp [results, Try.results33, go_sem, R0, R1, R2]) rfl ⟨_, _, _, by rw [E.out], by rw [E2.out]; exact OPar.nil _ _, hwZ.mono hB⟩
    · by_cases y2 : 40 < by_
      · have E := Lib.hid (raise_by (g := g) (by_ := by_) (decide_eq_false (by omega)))
        have E2 := Lib.hid (raiseG_no E.out)
        have d1 : decide (by_ < 0) = false := decide_eq_false y1
        have d2 : decide (40 < by_) = true := decide_eq_true y2
        have q0 : ((w.alloc (.cells #[.slice A0 n0 c0, .slice A1 n1 c1, .slice A2 n2 c2] 44)).alloc (.cells #[.slice none 0 0, .slice none 0 0, .slice none 0 0] 44)).cell? ⟨w.heap.size, 0, none⟩ = some (.slice A0 n0 c0) := bxL.cell 0; have q1 : ((w.alloc (.cells #[.slice A0 n0 c0, .slice A1 n1 c1, .slice A2 n2 c2] 44)).alloc (.cells #[.slice none 0 0, .slice none 0 0, .slice none 0 0] 44)).cell? ⟨w.heap.size, 1, none⟩ = some (.slice A1 n1 c1) := bxL.cell 1; have q2 : ((w.alloc (.cells #[.slice A0 n0 c0, .slice A1 n1 c1, .slice A2 n2 c2] 44)).alloc (.cells #[.slice none 0 0, .slice none 0 0, .slice none 0 0] 44)).cell? ⟨w.heap.size, 2, none⟩ = some (.slice A2 n2 c2) := bxL.cell 2
        go_enter Try.func33, Try.ntmps33
        go_wp2_with fail
        generalize ((w.alloc (.cells #[.slice A0 n0 c0, .slice A1 n1 c1, .slice A2 n2 c2] 44)).alloc (.cells #[.slice none 0 0, .slice none 0 0, .slice none 0 0] 44)) = W at *
        refine wp_region_held_drew (S := (fun w' => w'.cell? ⟨w.heap.size, 0, none⟩ = some (.slice A0 n0 c0) ∧ w'.cell? ⟨w.heap.size, 1, none⟩ = some (.slice A1 n1 c1) ∧ w'.cell? ⟨w.heap.size, 2, none⟩ = some (.slice A2 n2 c2))) (by kernel_rfl) (⟨q0, q1, q2⟩) (fun hHeld => ?_)
        refine takeH0 (v := ?_) (by kernel_rfl) (by kernel_rfl) (by kernel_rfl) (fun _ _ _ h => h) hHeld (by rfl) ?_ ?_
        rotate_left; · (intro w hSw; (try dsimp only at hSw); go_simp; try with_reducible rfl)
        try simp only [Act.put, List.setIfInBounds_toArray, List.set_cons_zero, List.set_cons_succ]
        refine callH1 (by kernel_rfl) (fun K hK => ?_)
        go_simp
        go_at_call 95
        refine (implParityOk _ _ _ g _ _ (Nat.le_refl _) (har.keep (keeps_below (Below.drew hwL)))).mono ?_
        rintro e w1 ⟨rfl, hb1⟩
        rw [HPB.out]
        replace hb1 := below_undrew hb1
        have hw1 := below_then hb1 hwL.size hwL
        have br1 := brL.on hb1
        have bx1 := bxL.on hb1
        have q0 : w1.cell? ⟨w.heap.size, 0, none⟩ = some (.slice A0 n0 c0) := bx1.cell 0
        have q1 : w1.cell? ⟨w.heap.size, 1, none⟩ = some (.slice A1 n1 c1) := bx1.cell 1
        have q2 : w1.cell? ⟨w.heap.size, 2, none⟩ = some (.slice A2 n2 c2) := bx1.cell 2
        go_wp2_with fail
        refine hK.out _ _ (⟨q0, q1, q2⟩) (fun hHeld => ?_)
        clear hK K
        try simp only [Act.put, List.setIfInBounds_toArray, List.set_cons_zero, List.set_cons_succ]
        refine takeH2 (v := ?_) (by kernel_rfl) (by kernel_rfl) (by kernel_rfl) (fun _ _ _ h => h) hHeld (by rfl) ?_ ?_
        rotate_left; · (intro w hSw; (try dsimp only at hSw); go_simp; try with_reducible rfl)
        try simp only [Act.put, List.setIfInBounds_toArray, List.set_cons_zero, List.set_cons_succ]
        refine takeH3 (v := ?_) (by kernel_rfl) (by kernel_rfl) (by kernel_rfl) (fun _ _ _ h => h) hHeld (by rfl) ?_ ?_
        rotate_left; · (intro w hSw; (try dsimp only at hSw); go_simp; try with_reducible rfl)
        try simp only [Act.put, List.setIfInBounds_toArray, List.set_cons_zero, List.set_cons_succ]
        refine takeH4 (v := ?_) (by kernel_rfl) (by kernel_rfl) (by kernel_rfl) (fun _ _ _ h => h) hHeld (by rfl) ?_ ?_
        rotate_left; · (intro w hSw; (try dsimp only at hSw); go_simp; try with_reducible rfl)
        try simp only [Act.put, List.setIfInBounds_toArray, List.set_cons_zero, List.set_cons_succ]
        refine takeH5 (v := ?_) (by kernel_rfl) (by kernel_rfl) (by kernel_rfl) (fun _ _ _ h => h) hHeld (by rfl) ?_ ?_
        rotate_left; · (intro w hSw; (try dsimp only at hSw); go_simp; try with_reducible rfl)
        try simp only [Act.put, List.setIfInBounds_toArray, List.set_cons_zero, List.set_cons_succ]
        refine takeH6 (v := ?_) (by kernel_rfl) (by kernel_rfl) (by kernel_rfl) (fun _ _ _ h => h) hHeld (by rfl) ?_ ?_
        rotate_left; · (intro w hSw; (try dsimp only at hSw); go_simp; try with_reducible rfl)
        try simp only [Act.put, List.setIfInBounds_toArray, List.set_cons_zero, List.set_cons_succ]
        refine takeH7 (v := ?_) (by kernel_rfl) (by kernel_rfl) (by kernel_rfl) (fun _ _ _ h => h) hHeld (by rfl) ?_ ?_
        rotate_left; · (intro w hSw; (try dsimp only at hSw); go_simp; try with_reducible rfl)
        try simp only [Act.put, List.setIfInBounds_toArray, List.set_cons_zero, List.set_cons_succ]
        refine takeH8 (v := ?_) (by kernel_rfl) (by kernel_rfl) (by kernel_rfl) (fun _ _ _ h => h) hHeld (by rfl) ?_ ?_
        rotate_left; · (intro w hSw; (try dsimp only at hSw); go_simp; try with_reducible rfl)
        try simp only [Act.put, List.setIfInBounds_toArray, List.set_cons_zero, List.set_cons_succ]
        refine takeH9 (v := ?_) (by kernel_rfl) (by kernel_rfl) (by kernel_rfl) (fun _ _ _ h => h) hHeld (by rfl) ?_ ?_
        rotate_left; · (intro w hSw; (try dsimp only at hSw); go_simp; try with_reducible rfl)
        try simp only [Act.put, List.setIfInBounds_toArray, List.set_cons_zero, List.set_cons_succ]
        refine takeH10 (v := ?_) (by kernel_rfl) (by kernel_rfl) (by kernel_rfl) (fun _ _ _ h => h) hHeld (by rfl) ?_ ?_
        rotate_left; · (intro w hSw; (try dsimp only at hSw); go_simp; try with_reducible rfl)
        try simp only [Act.put, List.setIfInBounds_toArray, List.set_cons_zero, List.set_cons_succ]
        refine takeH11 (v := ?_) (by kernel_rfl) (by kernel_rfl) (by kernel_rfl) (fun _ _ _ h => h) hHeld (by rfl) ?_ ?_
        rotate_left; · (intro w hSw; (try dsimp only at hSw); go_simp; try with_reducible rfl)
        try simp only [Act.put, List.setIfInBounds_toArray, List.set_cons_zero, List.set_cons_succ]
        refine skipH12 (by kernel_rfl) (by kernel_rfl) (by kernel_rfl) (fun _ _ _ h => h) hHeld (by rfl) ?_
        try simp only [Act.put, List.setIfInBounds_toArray, List.set_cons_zero, List.set_cons_succ]
        refine skipH13 (by kernel_rfl) (by kernel_rfl) (by kernel_rfl) (fun _ _ _ h => h) hHeld (by rfl) ?_
        try simp only [Act.put, List.setIfInBounds_toArray, List.set_cons_zero, List.set_cons_succ]
        refine skipH14 (by kernel_rfl) (by kernel_rfl) (by kernel_rfl) (fun _ _ _ h => h) hHeld (by rfl) ?_
        try simp only [Act.put, List.setIfInBounds_toArray, List.set_cons_zero, List.set_cons_succ]
        refine skipH15 (by kernel_rfl) (by kernel_rfl) (by kernel_rfl) (fun _ _ _ h => h) hHeld (by rfl) ?_
        try simp only [Act.put, List.setIfInBounds_toArray, List.set_cons_zero, List.set_cons_succ]
        refine skipH16 (by kernel_rfl) (by kernel_rfl) (by kernel_rfl) (fun _ _ _ h => h) hHeld (by rfl) ?_
        try simp only [Act.put, List.setIfInBounds_toArray, List.set_cons_zero, List.set_cons_succ]
        refine skipH17 (by kernel_rfl) (by kernel_rfl) (by kernel_rfl) (fun _ _ _ h => h) hHeld (by rfl) ?_
        try simp only [Act.put, List.setIfInBounds_toArray, List.set_cons_zero, List.set_cons_succ]
        refine skipH18 (by kernel_rfl) (by kernel_rfl) (by kernel_rfl) (fun _ _ _ h => h) hHeld (by rfl) ?_
        try simp only [Act.put, List.setIfInBounds_toArray, List.set_cons_zero, List.set_cons_succ]
        refine skipH19 (by kernel_rfl) (by kernel_rfl) (by kernel_rfl) (fun _ _ _ h => h) hHeld (by rfl) ?_
        try simp only [Act.put, List.setIfInBounds_toArray, List.set_cons_zero, List.set_cons_succ]
        refine skipH20 (by kernel_rfl) (by kernel_rfl) (by kernel_rfl) (fun _ _ _ h => h) hHeld (by rfl) ?_
        try simp only [Act.put, List.setIfInBounds_toArray, List.set_cons_zero, List.set_cons_succ]
        refine takeH21 (v := ?_) (by kernel_rfl) (by kernel_rfl) (by kernel_rfl) (fun _ _ _ h => h) hHeld (by rfl) ?_ ?_
        rotate_left; · (intro w hSw; (try dsimp only at hSw); go_simp; try with_reducible rfl)
        try simp only [Act.put, List.setIfInBounds_toArray, List.set_cons_zero, List.set_cons_succ]
        refine wpAnyH_done (by kernel_rfl) ?_ _
        all_goals
          have brX := br1
          clear q0 q1 q2
          have z0 : w1.cell? ⟨w.heap.size + 1, 0, none⟩ = some (.slice none 0 0) := brX.cell 0; have f0 := brX.hot 0; have z1 : w1.cell? ⟨w.heap.size + 1, 1, none⟩ = some (.slice none 0 0) := brX.cell 1; have f1 := brX.hot 1; have z2 : w1.cell? ⟨w.heap.size + 1, 2, none⟩ = some (.slice none 0 0) := brX.cell 2; have f2 := brX.hot 2
          go_wp2
          obtain ⟨hwZ, bxZ⟩ := zero3 hw1 (by omega) brX (.slice none 0 0) (.slice none 0 0) (.slice none 0 0)
          have R0 := bxZ.cell 0; have R1 := bxZ.cell 1; have R2 := bxZ.cell 2
          simp only [List.getElem?_toArray, List.getElem?_cons_zero, List.getElem?_cons_succ] at R0 R1 R2
          exact bodyPost_ret (v := .tuple #[.agg #[.slice none 0 0, .slice none 0 0, .slice none 0 0], .bool false]) (by simp [results, Try.results33, go_sem, R0, R1, R2]) rfl ⟨_, _, _, by rw [E.out], by rw [E2.out]; exact OPar.nil _ _, hwZ.mono hB⟩
      · have d1 : decide (by_ < 0) = false := decide_eq_false y1
        have d2 : decide (40 < by_) = false := decide_eq_false y2
        have y3 : 0 ≤ by_ := by omega
        have y4 : by_ ≤ 40 := by omega
        have HSA := Lib.hid (show setB (allL n0) g.2.2.length = true by rw [HP.out, H20.out]; exact allL_set n0)
        have hT := topUp_range (n := 0) HF.out.2.2 HSA.out (k := (allL n0).length) (Nat.le_refl _)
        have HT := Lib.hid (topL_all (p := g.2.2) (n := n0) (fun j hj => (HF.out.2.2 j (by rw [HP.out, H20.out]; exact hj)).1) hm0 (2 * by_))
        have t1 : -1 ≤ topL g.2.2 (allL n0) := hT.1
        have t2 : topL g.2.2 (allL n0) ≤ 40 := hT.2
        have e1 : IntKind.i64.wrap (2 * by_) = 2 * by_ := IntWalk.i64_in _ (by omega)
        have e2 : IntKind.i64.wrap (topL g.2.2 (allL n0) + 2 * by_) = topL g.2.2 (allL n0) + 2 * by_ := IntWalk.i64_in _ (by omega)
        clear hT
        by_cases hgt : topL g.2.2 (allL n0) + 2 * by_ ≤ 40
        · have HALL := Lib.hid (HT.out.1 hgt)
          have d3 : decide (40 < topL g.2.2 (allL n0) + 2 * by_) = false := decide_eq_false (by omega)
          have E := Lib.hid (raise_yes HPB.out (decide_eq_true ⟨y3, y4⟩ : inR by_ 0 40 = true) (by rw [HP.out, H20.out]; exact HALL.out))
          have E2 := Lib.hid (raiseG_yes E.out)
          clear hgt
          have q0 : ((w.alloc (.cells #[.slice A0 n0 c0, .slice A1 n1 c1, .slice A2 n2 c2] 44)).alloc (.cells #[.slice none 0 0, .slice none 0 0, .slice none 0 0] 44)).cell? ⟨w.heap.size, 0, none⟩ = some (.slice A0 n0 c0) := bxL.cell 0; have q1 : ((w.alloc (.cells #[.slice A0 n0 c0, .slice A1 n1 c1, .slice A2 n2 c2] 44)).alloc (.cells #[.slice none 0 0, .slice none 0 0, .slice none 0 0] 44)).cell? ⟨w.heap.size, 1, none⟩ = some (.slice A1 n1 c1) := bxL.cell 1; have q2 : ((w.alloc (.cells #[.slice A0 n0 c0, .slice A1 n1 c1, .slice A2 n2 c2] 44)).alloc (.cells #[.slice none 0 0, .slice none 0 0, .slice none 0 0] 44)).cell? ⟨w.heap.size, 2, none⟩ = some (.slice A2 n2 c2) := bxL.cell 2
          go_enter Try.func33, Try.ntmps33
          go_wp2_with fail
          generalize ((w.alloc (.cells #[.slice A0 n0 c0, .slice A1 n1 c1, .slice A2 n2 c2] 44)).alloc (.cells #[.slice none 0 0, .slice none 0 0, .slice none 0 0] 44)) = W at *
          refine wp_region_held_drew (S := (fun w' => w'.cell? ⟨w.heap.size, 0, none⟩ = some (.slice A0 n0 c0) ∧ w'.cell? ⟨w.heap.size, 1, none⟩ = some (.slice A1 n1 c1) ∧ w'.cell? ⟨w.heap.size, 2, none⟩ = some (.slice A2 n2 c2))) (by kernel_rfl) (⟨q0, q1, q2⟩) (fun hHeld => ?_)
          refine takeH0 (v := ?_) (by kernel_rfl) (by kernel_rfl) (by kernel_rfl) (fun _ _ _ h => h) hHeld (by rfl) ?_ ?_
          rotate_left; · (intro w hSw; (try dsimp only at hSw); go_simp; try with_reducible rfl)
          try simp only [Act.put, List.setIfInBounds_toArray, List.set_cons_zero, List.set_cons_succ]
          refine callH1 (by kernel_rfl) (fun K hK => ?_)
          go_simp
          go_at_call 95
          refine (implParityOk _ _ _ g _ _ (Nat.le_refl _) (har.keep (keeps_below (Below.drew hwL)))).mono ?_
          rintro e w1 ⟨rfl, hb1⟩
          rw [HPB.out]
          replace hb1 := below_undrew hb1
          have hw1 := below_then hb1 hwL.size hwL
          have br1 := brL.on hb1
          have bx1 := bxL.on hb1
          have q0 : w1.cell? ⟨w.heap.size, 0, none⟩ = some (.slice A0 n0 c0) := bx1.cell 0
          have q1 : w1.cell? ⟨w.heap.size, 1, none⟩ = some (.slice A1 n1 c1) := bx1.cell 1
          have q2 : w1.cell? ⟨w.heap.size, 2, none⟩ = some (.slice A2 n2 c2) := bx1.cell 2
          go_wp2_with fail
          refine hK.out _ _ (⟨q0, q1, q2⟩) (fun hHeld => ?_)
          clear hK K
          try simp only [Act.put, List.setIfInBounds_toArray, List.set_cons_zero, List.set_cons_succ]
          refine takeH2 (v := ?_) (by kernel_rfl) (by kernel_rfl) (by kernel_rfl) (fun _ _ _ h => h) hHeld (by rfl) ?_ ?_
          rotate_left; · (intro w hSw; (try dsimp only at hSw); go_simp; try with_reducible rfl)
          try simp only [Act.put, List.setIfInBounds_toArray, List.set_cons_zero, List.set_cons_succ]
          refine takeH3 (v := ?_) (by kernel_rfl) (by kernel_rfl) (by kernel_rfl) (fun _ _ _ h => h) hHeld (by rfl) ?_ ?_
          rotate_left; · (intro w hSw; (try dsimp only at hSw); go_simp; try with_reducible rfl)
          try simp only [Act.put, List.setIfInBounds_toArray, List.set_cons_zero, List.set_cons_succ]
          refine takeH4 (v := ?_) (by kernel_rfl) (by kernel_rfl) (by kernel_rfl) (fun _ _ _ h => h) hHeld (by rfl) ?_ ?_
          rotate_left; · (intro w hSw; (try dsimp only at hSw); go_simp; try with_reducible rfl)
          try simp only [Act.put, List.setIfInBounds_toArray, List.set_cons_zero, List.set_cons_succ]
          refine takeH5 (v := ?_) (by kernel_rfl) (by kernel_rfl) (by kernel_rfl) (fun _ _ _ h => h) hHeld (by rfl) ?_ ?_
          rotate_left; · (intro w hSw; (try dsimp only at hSw); go_simp; try with_reducible rfl)
          try simp only [Act.put, List.setIfInBounds_toArray, List.set_cons_zero, List.set_cons_succ]
          refine takeH6 (v := ?_) (by kernel_rfl) (by kernel_rfl) (by kernel_rfl) (fun _ _ _ h => h) hHeld (by rfl) ?_ ?_
          rotate_left; · (intro w hSw; (try dsimp only at hSw); go_simp; try with_reducible rfl)
          try simp only [Act.put, List.setIfInBounds_toArray, List.set_cons_zero, List.set_cons_succ]
          refine takeH7 (v := ?_) (by kernel_rfl) (by kernel_rfl) (by kernel_rfl) (fun _ _ _ h => h) hHeld (by rfl) ?_ ?_
          rotate_left; · (intro w hSw; (try dsimp only at hSw); go_simp; try with_reducible rfl)
          try simp only [Act.put, List.setIfInBounds_toArray, List.set_cons_zero, List.set_cons_succ]
          refine takeH8 (v := ?_) (by kernel_rfl) (by kernel_rfl) (by kernel_rfl) (fun _ _ _ h => h) hHeld (by rfl) ?_ ?_
          rotate_left; · (intro w hSw; (try dsimp only at hSw); go_simp; try with_reducible rfl)
          try simp only [Act.put, List.setIfInBounds_toArray, List.set_cons_zero, List.set_cons_succ]
          refine takeH9 (v := ?_) (by kernel_rfl) (by kernel_rfl) (by kernel_rfl) (fun _ _ _ h => h) hHeld (by rfl) ?_ ?_
          rotate_left; · (intro w hSw; (try dsimp only at hSw); go_simp; try with_reducible rfl)
          try simp only [Act.put, List.setIfInBounds_toArray, List.set_cons_zero, List.set_cons_succ]
          refine takeH10 (v := ?_) (by kernel_rfl) (by kernel_rfl) (by kernel_rfl) (fun _ _ _ h => h) hHeld (by rfl) ?_ ?_
          rotate_left; · (intro w hSw; (try dsimp only at hSw); go_simp; try with_reducible rfl)
          try simp only [Act.put, List.setIfInBounds_toArray, List.set_cons_zero, List.set_cons_succ]
          refine takeH11 (v := ?_) (by kernel_rfl) (by kernel_rfl) (by kernel_rfl) (fun _ _ _ h => h) hHeld (by rfl) ?_ ?_
          rotate_left; · (intro w hSw; (try dsimp only at hSw); go_simp; try with_reducible rfl)
          try simp only [Act.put, List.setIfInBounds_toArray, List.set_cons_zero, List.set_cons_succ]
          refine takeH12 (v := ?_) (by kernel_rfl) (by kernel_rfl) (by kernel_rfl) (fun _ _ _ h => h) hHeld (by rfl) ?_ ?_
          rotate_left; · (intro w hSw; (try dsimp only at hSw); go_simp; try with_reducible rfl)
          try simp only [Act.put, List.setIfInBounds_toArray, List.set_cons_zero, List.set_cons_succ]
          refine takeH13 (v := ?_) (by kernel_rfl) (by kernel_rfl) (by kernel_rfl) (fun _ _ _ h => h) hHeld (by rfl) ?_ ?_
          rotate_left; · (intro w hSw; (try dsimp only at hSw); go_simp; try with_reducible rfl)
          try simp only [Act.put, List.setIfInBounds_toArray, List.set_cons_zero, List.set_cons_succ]
          refine takeH14 (v := ?_) (by kernel_rfl) (by kernel_rfl) (by kernel_rfl) (fun _ _ _ h => h) hHeld (by rfl) ?_ ?_
          rotate_left; · (intro w hSw; (try dsimp only at hSw); go_simp; try with_reducible rfl)
          try simp only [Act.put, List.setIfInBounds_toArray, List.set_cons_zero, List.set_cons_succ]
          refine takeH17 (v := ?_) (by kernel_rfl) (by kernel_rfl) (by kernel_rfl) (fun _ _ _ h => h) hHeld (by rfl) ?_ ?_
          rotate_left; · (intro w hSw; (try dsimp only at hSw); go_simp; try with_reducible rfl)
          try simp only [Act.put, List.setIfInBounds_toArray, List.set_cons_zero, List.set_cons_succ]
          refine takeH18 (v := ?_) (by kernel_rfl) (by kernel_rfl) (by kernel_rfl) (fun _ _ _ h => h) hHeld (by rfl) ?_ ?_
          rotate_left; · (intro w hSw; (try dsimp only at hSw); go_simp; try with_reducible rfl)
          try simp only [Act.put, List.setIfInBounds_toArray, List.set_cons_zero, List.set_cons_succ]
          refine callH15 (by kernel_rfl) (fun K hK => ?_)
          go_simp
          go_at_call 101
          refine (allOf A0 A1 n0 c0 n1 c1 _ _ (Nat.le_refl _) hn0).mono ?_
          rintro e w2 ⟨v2, rfl, ho2, hb2⟩
          obtain ⟨Av2, cv2, rfl⟩ := ho2.form
          have hw2 := below_then hb2 hw1.size hw1
          have br2 := br1.on hb2
          have bx2 := bx1.on hb2
          have q0 : w2.cell? ⟨w.heap.size, 0, none⟩ = some (.slice A0 n0 c0) := bx2.cell 0
          have q1 : w2.cell? ⟨w.heap.size, 1, none⟩ = some (.slice A1 n1 c1) := bx2.cell 1
          have q2 : w2.cell? ⟨w.heap.size, 2, none⟩ = some (.slice A2 n2 c2) := bx2.cell 2
          go_wp2_with fail
          refine hK.out _ _ (⟨q0, q1, q2⟩) (fun hHeld => ?_)
          clear hK K
          try simp only [Act.put, List.setIfInBounds_toArray, List.set_cons_zero, List.set_cons_succ]
          refine callH16 (by kernel_rfl) (fun K hK => ?_)
          go_simp
          go_at_call 100
          refine (topIn _ _ _ g _ _ _ (allL n0) _ _ (Nat.le_refl _) (har.keep (keeps_below hw2)) ho2.reads HF.out HSA.out).mono ?_
          rintro e w3 ⟨rfl, hb3⟩
          have hw3 := below_then hb3 hw2.size hw2
          have br3 := br2.on hb3
          have bx3 := bx2.on hb3
          have q0 : w3.cell? ⟨w.heap.size, 0, none⟩ = some (.slice A0 n0 c0) := bx3.cell 0
          have q1 : w3.cell? ⟨w.heap.size, 1, none⟩ = some (.slice A1 n1 c1) := bx3.cell 1
          have q2 : w3.cell? ⟨w.heap.size, 2, none⟩ = some (.slice A2 n2 c2) := bx3.cell 2
          go_wp2_with fail
          refine hK.out _ _ (⟨q0, q1, q2⟩) (fun hHeld => ?_)
          clear hK K
          try simp only [Act.put, List.setIfInBounds_toArray, List.set_cons_zero, List.set_cons_succ]
          refine takeH19 (v := ?_) (by kernel_rfl) (by kernel_rfl) (by kernel_rfl) (fun _ _ _ h => h) hHeld (by rfl) ?_ ?_
          rotate_left; · (intro w hSw; (try dsimp only at hSw); go_simp; try with_reducible rfl)
          try simp only [Act.put, List.setIfInBounds_toArray, List.set_cons_zero, List.set_cons_succ]
          refine takeH20 (v := ?_) (by kernel_rfl) (by kernel_rfl) (by kernel_rfl) (fun _ _ _ h => h) hHeld (by rfl) ?_ ?_
          rotate_left; · (intro w hSw; (try dsimp only at hSw); go_simp; try with_reducible rfl)
          try simp only [Act.put, List.setIfInBounds_toArray, List.set_cons_zero, List.set_cons_succ]
          refine takeH21 (v := ?_) (by kernel_rfl) (by kernel_rfl) (by kernel_rfl) (fun _ _ _ h => h) hHeld (by rfl) ?_ ?_
          rotate_left; · (intro w hSw; (try dsimp only at hSw); go_simp; try with_reducible rfl)
          try simp only [Act.put, List.setIfInBounds_toArray, List.set_cons_zero, List.set_cons_succ]
          refine wpAnyH_done (by kernel_rfl) ?_ _
          all_goals
            have brX := br3; have bxX := bx3
            clear q0 q1 q2
            have q0 : w3.cell? ⟨w.heap.size, 0, none⟩ = some (.slice A0 n0 c0) := bxX.cell 0; have q1 : w3.cell? ⟨w.heap.size, 1, none⟩ = some (.slice A1 n1 c1) := bxX.cell 1; have q2 : w3.cell? ⟨w.heap.size, 2, none⟩ = some (.slice A2 n2 c2) := bxX.cell 2
            go_wp2_with fail
            refine (copyParity _ _ _ g _ _ (Nat.le_refl _) (har.keep (keeps_below hw3)) HF.out).mono ?_; rintro e w4 ⟨t0, t1', t2', rfl, hoc, hb4⟩
            obtain ⟨T0, d0, T1, d1', T2, d2', rfl, rfl, rfl⟩ := hoc.form
            obtain ⟨gp, rfl⟩ : ∃ gp, T2 = some ⟨gp, 0, none⟩ := by
              obtain ⟨cs, _, h2, _⟩ := hoc
              obtain ⟨x, c, e⟩ := h2.form2 (by rw [HP.out]; have := H20.out; omega)
              injection e with e1 _ _
              exact ⟨x, e1⟩
            have hw4 := below_then hb4 hw3.size hw3
            replace brX := brX.on hb4
            have hlP : ∀ z, (Value.slice (some ⟨gp, 0, none⟩) g.2.2.length d2').ownBlock = some z → w3.heap.size ≤ z ∧ z < w4.heap.size := fun z hz => by
              obtain ⟨cs, _, h2, _⟩ := hoc
              exact h2.lt z hz
            have hgp : w3.heap.size ≤ gp ∧ gp < w4.heap.size := hlP gp rfl
            have hg1 := hgp.1; have hg2 := hgp.2
            have hz3 := hw3.size; have hz34 := hb4.size; have hbr3 := br3.lt
            have bo := Box.new w4 44 #[.slice T0 g.1.length d0, .slice T1 g.2.1.length d1', .slice (some ⟨gp, 0, none⟩) g.2.2.length d2']
            replace brX := brX.alloc (.cells #[.slice T0 g.1.length d0, .slice T1 g.2.1.length d1', .slice (some ⟨gp, 0, none⟩) g.2.2.length d2'] 44)
            have hw5 := below_alloc (o := .cells #[.slice T0 g.1.length d0, .slice T1 g.2.1.length d1', .slice (some ⟨gp, 0, none⟩) g.2.2.length d2'] 44) (Nat.le_refl _) hw4
            replace hoc := hoc.below (below_alloc (o := .cells #[.slice T0 g.1.length d0, .slice T1 g.2.1.length d1', .slice (some ⟨gp, 0, none⟩) g.2.2.length d2'] 44) (Nat.le_refl _) (Below.refl _ _))
            have HR0 := Lib.hid (raiseL_zero g.2.2 by_)
            have hpl : g.2.2.length ≤ 256 := by rw [HP.out]; have := H20.out; omega
            clear q0 q1 q2 hlP hgp d1 d2 d3 e2 bx1 bx2 bx3 br1 br2 br3 bxX bxL brL hb1 hb2 hb3 hb4 ho2
            go_wp2
            generalize hLN : g.2.2.length = ln at *
            have HLN := Lib.hid hLN
            clear hLN
            go_loopw [36] (fun i wr => ∃ k : Nat, k ≤ ln ∧ i = .int .i64 k ∧ OPar wr w3.heap.size (.slice T0 g.1.length d0) (.slice T1 g.2.1.length d1') (.slice (some ⟨gp, 0, none⟩) ln d2') (g.1, g.2.1, raiseL g.2.2 by_ k) ∧ Box wr w4.heap.size 44 #[.slice T0 g.1.length d0, .slice T1 g.2.1.length d1', .slice (some ⟨gp, 0, none⟩) ln d2'] ∧ Box wr (w.heap.size + 1) 44 #[.slice none 0 0, .slice none 0 0, .slice none 0 0] ∧ Below w.heap.size w wr) (fun i _ => ln - (intOf i).toNat)
            case atStart => exact ⟨0, Nat.zero_le _, rfl, by rw [HR0.out]; exact hoc, bo, brX, hw5⟩
            case round =>
              clear hoc bo brX hw5 hw4
              obtain ⟨k, hk, rfl, hop, hbo, hbr, hwr⟩ := hrel
              have c0' : wr.cell? ⟨w4.heap.size, 0, none⟩ = some (.slice T0 g.1.length d0) := hbo.cell 0
              have c1' : wr.cell? ⟨w4.heap.size, 1, none⟩ = some (.slice T1 g.2.1.length d1') := hbo.cell 1
              have c2' : wr.cell? ⟨w4.heap.size, 2, none⟩ = some (.slice (some ⟨gp, 0, none⟩) ln d2') := hbo.cell 2
              by_cases hlt : k < ln
              · have hcell : wr.cell? ⟨gp, k, none⟩ = some (.int .i64 (gi g.2.2 k)) ∧ wr.frozen? ⟨gp, k, none⟩ = false := by
                  obtain ⟨cs, _, h2, _⟩ := hop
                  have h3 := OI.cellAt (i := k) (xs := raiseL g.2.2 by_ k) h2 (by rw [raiseL_len, HLN.out]; exact hlt)
                  rw [raiseL_at (by rw [HLN.out]; exact hlt)] at h3
                  exact ⟨h3, OI.hot (xs := raiseL g.2.2 by_ k) h2 (by rw [raiseL_len, HLN.out])⟩
                obtain ⟨hc1, hc2⟩ := hcell
                have hpr := HF.out.2.2 k (by rw [HLN.out]; exact hlt)
                have hp1 := hpr.1; have hp2 := hpr.2
                have hki : (k : Int) < (ln : Int) := by omega
                have hk0 : (0 : Int) ≤ (k : Int) := by omega
                have HN := Lib.hid (raiseL_put (by_ := by_) (show k < g.2.2.length by rw [HLN.out]; exact hlt))
                have hset := Lib.hid (show OPar (wr.setCell ⟨gp, k, none⟩ (.int .i64 (gi g.2.2 k + 2 * by_))) w3.heap.size (.slice T0 g.1.length d0) (.slice T1 g.2.1.length d1') (.slice (some ⟨gp, 0, none⟩) ln d2') (g.1, g.2.1, raiseL g.2.2 by_ (k + 1)) by
                  have hl : (raiseL g.2.2 by_ k).length = ln := by rw [raiseL_len, HLN.out]
                  have h5 := OPar.setP (i := k) (g := (g.1, g.2.1, raiseL g.2.2 by_ k)) (by rw [hl]; exact hop) (gi g.2.2 k + 2 * by_)
                  rw [HN.out, hl] at h5
                  exact h5)
                clear hpr
                go_wp2
                exact ⟨⟨k + 1, by omega, by go_num, hset.out, hbo.far (by show w4.heap.size ≠ gp; omega) _, hbr.far (by show w.heap.size + 1 ≠ gp; omega) _, below_set (by show w.heap.size ≤ gp; omega) hwr⟩, by simp [intOf]; omega⟩
              · obtain rfl : k = ln := by omega
                have z0 : wr.cell? ⟨w.heap.size + 1, 0, none⟩ = some (.slice none 0 0) := hbr.cell 0
                have z1 : wr.cell? ⟨w.heap.size + 1, 1, none⟩ = some (.slice none 0 0) := hbr.cell 1
                have z2 : wr.cell? ⟨w.heap.size + 1, 2, none⟩ = some (.slice none 0 0) := hbr.cell 2
                have f0 := hbr.hot 0; have f1 := hbr.hot 1; have f2 := hbr.hot 2
                obtain ⟨hwZ, bxZ⟩ := zero3 hwr (by omega) hbr (.slice T0 g.1.length d0) (.slice T1 g.2.1.length d1') (.slice (some ⟨gp, 0, none⟩) k d2')
                have R0 := bxZ.cell 0; have R1 := bxZ.cell 1; have R2 := bxZ.cell 2
                simp only [List.getElem?_toArray, List.getElem?_cons_zero, List.getElem?_cons_succ] at R0 R1 R2
                have hF := hop.chg (Chg.set3 wr (w.heap.size + 1) (.slice T0 g.1.length d0) (.slice T1 g.2.1.length d1') (.slice (some ⟨gp, 0, none⟩) k d2')) (fun b hb => by have hb' : b = w.heap.size + 1 := hb; omega)
                have E3 := Lib.hid (show raiseG g by_ = (g.1, g.2.1, raiseL g.2.2 by_ k) by
                  have h1 := HF.out.1.2.2.1; have h2 := HF.out.2.1
                  rw [E2.out, ← HLN.out, raiseL_full]
                  unfold raiseUp
                  rw [List.take_of_length_le (by omega), List.take_of_length_le (by omega), List.take_of_length_le (Nat.le_refl _)])
                go_wp2
                exact bodyPost_ret (v := .tuple #[.agg #[.slice T0 g.1.length d0, .slice T1 g.2.1.length d1', .slice (some ⟨gp, 0, none⟩) k d2'], .bool true]) (by simp [results, Try.results33, go_sem, R0, R1, R2]) rfl ⟨_, _, _, by rw [E.out], by rw [E3.out]; exact hF.more (by omega), hwZ.mono hB⟩
        · have E := Lib.hid (raise_top (g := g) (by_ := by_) (fun h => hgt (HT.out.2 (by rw [HP.out, H20.out] at h; exact h))))
          have E2 := Lib.hid (raiseG_no E.out)
          have d3 : decide (40 < topL g.2.2 (allL n0) + 2 * by_) = true := decide_eq_true (by omega)
          clear hgt
          have q0 : ((w.alloc (.cells #[.slice A0 n0 c0, .slice A1 n1 c1, .slice A2 n2 c2] 44)).alloc (.cells #[.slice none 0 0, .slice none 0 0, .slice none 0 0] 44)).cell? ⟨w.heap.size, 0, none⟩ = some (.slice A0 n0 c0) := bxL.cell 0; have q1 : ((w.alloc (.cells #[.slice A0 n0 c0, .slice A1 n1 c1, .slice A2 n2 c2] 44)).alloc (.cells #[.slice none 0 0, .slice none 0 0, .slice none 0 0] 44)).cell? ⟨w.heap.size, 1, none⟩ = some (.slice A1 n1 c1) := bxL.cell 1; have q2 : ((w.alloc (.cells #[.slice A0 n0 c0, .slice A1 n1 c1, .slice A2 n2 c2] 44)).alloc (.cells #[.slice none 0 0, .slice none 0 0, .slice none 0 0] 44)).cell? ⟨w.heap.size, 2, none⟩ = some (.slice A2 n2 c2) := bxL.cell 2
          go_enter Try.func33, Try.ntmps33
          go_wp2_with fail
          generalize ((w.alloc (.cells #[.slice A0 n0 c0, .slice A1 n1 c1, .slice A2 n2 c2] 44)).alloc (.cells #[.slice none 0 0, .slice none 0 0, .slice none 0 0] 44)) = W at *
          refine wp_region_held_drew (S := (fun w' => w'.cell? ⟨w.heap.size, 0, none⟩ = some (.slice A0 n0 c0) ∧ w'.cell? ⟨w.heap.size, 1, none⟩ = some (.slice A1 n1 c1) ∧ w'.cell? ⟨w.heap.size, 2, none⟩ = some (.slice A2 n2 c2))) (by kernel_rfl) (⟨q0, q1, q2⟩) (fun hHeld => ?_)
          refine takeH0 (v := ?_) (by kernel_rfl) (by kernel_rfl) (by kernel_rfl) (fun _ _ _ h => h) hHeld (by rfl) ?_ ?_
          rotate_left; · (intro w hSw; (try dsimp only at hSw); go_simp; try with_reducible rfl)
          try simp only [Act.put, List.setIfInBounds_toArray, List.set_cons_zero, List.set_cons_succ]
          refine callH1 (by kernel_rfl) (fun K hK => ?_)
          go_simp
          go_at_call 95
          refine (implParityOk _ _ _ g _ _ (Nat.le_refl _) (har.keep (keeps_below (Below.drew hwL)))).mono ?_
          rintro e w1 ⟨rfl, hb1⟩
          rw [HPB.out]
          replace hb1 := below_undrew hb1
          have hw1 := below_then hb1 hwL.size hwL
          have br1 := brL.on hb1
          have bx1 := bxL.on hb1
          have q0 : w1.cell? ⟨w.heap.size, 0, none⟩ = some (.slice A0 n0 c0) := bx1.cell 0
          have q1 : w1.cell? ⟨w.heap.size, 1, none⟩ = some (.slice A1 n1 c1) := bx1.cell 1
          have q2 : w1.cell? ⟨w.heap.size, 2, none⟩ = some (.slice A2 n2 c2) := bx1.cell 2
          go_wp2_with fail
          refine hK.out _ _ (⟨q0, q1, q2⟩) (fun hHeld => ?_)
          clear hK K
          try simp only [Act.put, List.setIfInBounds_toArray, List.set_cons_zero, List.set_cons_succ]
          refine takeH2 (v := ?_) (by kernel_rfl) (by kernel_rfl) (by kernel_rfl) (fun _ _ _ h => h) hHeld (by rfl) ?_ ?_
          rotate_left; · (intro w hSw; (try dsimp only at hSw); go_simp; try with_reducible rfl)
          try simp only [Act.put, List.setIfInBounds_toArray, List.set_cons_zero, List.set_cons_succ]
          refine takeH3 (v := ?_) (by kernel_rfl) (by kernel_rfl) (by kernel_rfl) (fun _ _ _ h => h) hHeld (by rfl) ?_ ?_
          rotate_left; · (intro w hSw; (try dsimp only at hSw); go_simp; try with_reducible rfl)
          try simp only [Act.put, List.setIfInBounds_toArray, List.set_cons_zero, List.set_cons_succ]
          refine takeH4 (v := ?_) (by kernel_rfl) (by kernel_rfl) (by kernel_rfl) (fun _ _ _ h => h) hHeld (by rfl) ?_ ?_
          rotate_left; · (intro w hSw; (try dsimp only at hSw); go_simp; try with_reducible rfl)
          try simp only [Act.put, List.setIfInBounds_toArray, List.set_cons_zero, List.set_cons_succ]
          refine takeH5 (v := ?_) (by kernel_rfl) (by kernel_rfl) (by kernel_rfl) (fun _ _ _ h => h) hHeld (by rfl) ?_ ?_
          rotate_left; · (intro w hSw; (try dsimp only at hSw); go_simp; try with_reducible rfl)
          try simp only [Act.put, List.setIfInBounds_toArray, List.set_cons_zero, List.set_cons_succ]
          refine takeH6 (v := ?_) (by kernel_rfl) (by kernel_rfl) (by kernel_rfl) (fun _ _ _ h => h) hHeld (by rfl) ?_ ?_
          rotate_left; · (intro w hSw; (try dsimp only at hSw); go_simp; try with_reducible rfl)
          try simp only [Act.put, List.setIfInBounds_toArray, List.set_cons_zero, List.set_cons_succ]
          refine takeH7 (v := ?_) (by kernel_rfl) (by kernel_rfl) (by kernel_rfl) (fun _ _ _ h => h) hHeld (by rfl) ?_ ?_
          rotate_left; · (intro w hSw; (try dsimp only at hSw); go_simp; try with_reducible rfl)
          try simp only [Act.put, List.setIfInBounds_toArray, List.set_cons_zero, List.set_cons_succ]
          refine takeH8 (v := ?_) (by kernel_rfl) (by kernel_rfl) (by kernel_rfl) (fun _ _ _ h => h) hHeld (by rfl) ?_ ?_
          rotate_left; · (intro w hSw; (try dsimp only at hSw); go_simp; try with_reducible rfl)
          try simp only [Act.put, List.setIfInBounds_toArray, List.set_cons_zero, List.set_cons_succ]
          refine takeH9 (v := ?_) (by kernel_rfl) (by kernel_rfl) (by kernel_rfl) (fun _ _ _ h => h) hHeld (by rfl) ?_ ?_
          rotate_left; · (intro w hSw; (try dsimp only at hSw); go_simp; try with_reducible rfl)
          try simp only [Act.put, List.setIfInBounds_toArray, List.set_cons_zero, List.set_cons_succ]
          refine takeH10 (v := ?_) (by kernel_rfl) (by kernel_rfl) (by kernel_rfl) (fun _ _ _ h => h) hHeld (by rfl) ?_ ?_
          rotate_left; · (intro w hSw; (try dsimp only at hSw); go_simp; try with_reducible rfl)
          try simp only [Act.put, List.setIfInBounds_toArray, List.set_cons_zero, List.set_cons_succ]
          refine takeH11 (v := ?_) (by kernel_rfl) (by kernel_rfl) (by kernel_rfl) (fun _ _ _ h => h) hHeld (by rfl) ?_ ?_
          rotate_left; · (intro w hSw; (try dsimp only at hSw); go_simp; try with_reducible rfl)
          try simp only [Act.put, List.setIfInBounds_toArray, List.set_cons_zero, List.set_cons_succ]
          refine takeH12 (v := ?_) (by kernel_rfl) (by kernel_rfl) (by kernel_rfl) (fun _ _ _ h => h) hHeld (by rfl) ?_ ?_
          rotate_left; · (intro w hSw; (try dsimp only at hSw); go_simp; try with_reducible rfl)
          try simp only [Act.put, List.setIfInBounds_toArray, List.set_cons_zero, List.set_cons_succ]
          refine takeH13 (v := ?_) (by kernel_rfl) (by kernel_rfl) (by kernel_rfl) (fun _ _ _ h => h) hHeld (by rfl) ?_ ?_
          rotate_left; · (intro w hSw; (try dsimp only at hSw); go_simp; try with_reducible rfl)
          try simp only [Act.put, List.setIfInBounds_toArray, List.set_cons_zero, List.set_cons_succ]
          refine takeH14 (v := ?_) (by kernel_rfl) (by kernel_rfl) (by kernel_rfl) (fun _ _ _ h => h) hHeld (by rfl) ?_ ?_
          rotate_left; · (intro w hSw; (try dsimp only at hSw); go_simp; try with_reducible rfl)
          try simp only [Act.put, List.setIfInBounds_toArray, List.set_cons_zero, List.set_cons_succ]
          refine takeH17 (v := ?_) (by kernel_rfl) (by kernel_rfl) (by kernel_rfl) (fun _ _ _ h => h) hHeld (by rfl) ?_ ?_
          rotate_left; · (intro w hSw; (try dsimp only at hSw); go_simp; try with_reducible rfl)
          try simp only [Act.put, List.setIfInBounds_toArray, List.set_cons_zero, List.set_cons_succ]
          refine takeH18 (v := ?_) (by kernel_rfl) (by kernel_rfl) (by kernel_rfl) (fun _ _ _ h => h) hHeld (by rfl) ?_ ?_
          rotate_left; · (intro w hSw; (try dsimp only at hSw); go_simp; try with_reducible rfl)
          try simp only [Act.put, List.setIfInBounds_toArray, List.set_cons_zero, List.set_cons_succ]
          refine callH15 (by kernel_rfl) (fun K hK => ?_)
          go_simp
          go_at_call 101
          refine (allOf A0 A1 n0 c0 n1 c1 _ _ (Nat.le_refl _) hn0).mono ?_
          rintro e w2 ⟨v2, rfl, ho2, hb2⟩
          obtain ⟨Av2, cv2, rfl⟩ := ho2.form
          have hw2 := below_then hb2 hw1.size hw1
          have br2 := br1.on hb2
          have bx2 := bx1.on hb2
          have q0 : w2.cell? ⟨w.heap.size, 0, none⟩ = some (.slice A0 n0 c0) := bx2.cell 0
          have q1 : w2.cell? ⟨w.heap.size, 1, none⟩ = some (.slice A1 n1 c1) := bx2.cell 1
          have q2 : w2.cell? ⟨w.heap.size, 2, none⟩ = some (.slice A2 n2 c2) := bx2.cell 2
          go_wp2_with fail
          refine hK.out _ _ (⟨q0, q1, q2⟩) (fun hHeld => ?_)
          clear hK K
          try simp only [Act.put, List.setIfInBounds_toArray, List.set_cons_zero, List.set_cons_succ]
          refine callH16 (by kernel_rfl) (fun K hK => ?_)
          go_simp
          go_at_call 100
          refine (topIn _ _ _ g _ _ _ (allL n0) _ _ (Nat.le_refl _) (har.keep (keeps_below hw2)) ho2.reads HF.out HSA.out).mono ?_
          rintro e w3 ⟨rfl, hb3⟩
          have hw3 := below_then hb3 hw2.size hw2
          have br3 := br2.on hb3
          have bx3 := bx2.on hb3
          have q0 : w3.cell? ⟨w.heap.size, 0, none⟩ = some (.slice A0 n0 c0) := bx3.cell 0
          have q1 : w3.cell? ⟨w.heap.size, 1, none⟩ = some (.slice A1 n1 c1) := bx3.cell 1
          have q2 : w3.cell? ⟨w.heap.size, 2, none⟩ = some (.slice A2 n2 c2) := bx3.cell 2
          go_wp2_with fail
          refine hK.out _ _ (⟨q0, q1, q2⟩) (fun hHeld => ?_)
          clear hK K
          try simp only [Act.put, List.setIfInBounds_toArray, List.set_cons_zero, List.set_cons_succ]
          refine takeH19 (v := ?_) (by kernel_rfl) (by kernel_rfl) (by kernel_rfl) (fun _ _ _ h => h) hHeld (by rfl) ?_ ?_
          rotate_left; · (intro w hSw; (try dsimp only at hSw); go_simp; try with_reducible rfl)
          try simp only [Act.put, List.setIfInBounds_toArray, List.set_cons_zero, List.set_cons_succ]
          refine takeH20 (v := ?_) (by kernel_rfl) (by kernel_rfl) (by kernel_rfl) (fun _ _ _ h => h) hHeld (by rfl) ?_ ?_
          rotate_left; · (intro w hSw; (try dsimp only at hSw); go_simp; try with_reducible rfl)
          try simp only [Act.put, List.setIfInBounds_toArray, List.set_cons_zero, List.set_cons_succ]
          refine takeH21 (v := ?_) (by kernel_rfl) (by kernel_rfl) (by kernel_rfl) (fun _ _ _ h => h) hHeld (by rfl) ?_ ?_
          rotate_left; · (intro w hSw; (try dsimp only at hSw); go_simp; try with_reducible rfl)
          try simp only [Act.put, List.setIfInBounds_toArray, List.set_cons_zero, List.set_cons_succ]
          refine wpAnyH_done (by kernel_rfl) ?_ _
          all_goals
            have brX := br3
            clear q0 q1 q2
            have z0 : w3.cell? ⟨w.heap.size + 1, 0, none⟩ = some (.slice none 0 0) := brX.cell 0; have f0 := brX.hot 0; have z1 : w3.cell? ⟨w.heap.size + 1, 1, none⟩ = some (.slice none 0 0) := brX.cell 1; have f1 := brX.hot 1; have z2 : w3.cell? ⟨w.heap.size + 1, 2, none⟩ = some (.slice none 0 0) := brX.cell 2; have f2 := brX.hot 2
            go_wp2
            obtain ⟨hwZ, bxZ⟩ := zero3 hw3 (by omega) brX (.slice none 0 0) (.slice none 0 0) (.slice none 0 0)
            have R0 := bxZ.cell 0; have R1 := bxZ.cell 1; have R2 := bxZ.cell 2
            simp only [List.getElem?_toArray, List.getElem?_cons_zero, List.getElem?_cons_succ] at R0 R1 R2
            exact bodyPost_ret (v := .tuple #[.agg #[.slice none 0 0, .slice none 0 0, .slice none 0 0], .bool false]) (by simp [results, Try.results33, go_sem, R0, R1, R2]) rfl ⟨_, _, _, by rw [E.out], by rw [E2.out]; exact OPar.nil _ _, hwZ.mono hB⟩

end Go.Proofs.Ytfjhkjikfjpnpaa
