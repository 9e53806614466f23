/- l14Where, spec.RenamedGame. -/
import Derived.Test.YtefjhkcafcchlaaRen1
import Derived.Test.YtefjhkcafcchlaaGame2
import Derived.Test.YtefjhkcafcchlaaMore
import Derived.Test.YtefjhkcafcchlaaPut
import Derived.Test.YtefjhkcafcchlaaUse
import Derived.Test.YtefjhkcafcchlaaHand
import Derived.Test.YtefjhkcafcchlaaCut
namespace Go.Proofs.Ytefjhkcafcchlaa
open Go.RowKit

set_option maxRecDepth 100000 in
set_option maxHeartbeats 800000 in
theorem l14Where (A : Option Addr) (m c : Nat) (od : List Int) (n : Nat) (w : World) (B : Nat) (hB : B ≤ w.heap.size) (ha : RI w A m c od) (hn1 : 1 ≤ n) (hn : n ≤ 256) :
    Calls Try.prog 122 #[.slice A m c, .int .i64 (n : Int)] w fun e w' => ∃ v, e = .returned v ∧ OI 2 w' B v (whereR od n) ∧ Below B w w' := by
  have b1 := ha.cap; have b2 := ha.top
  have HL := Lib.hid ha.len
  by_cases hmn : m = n
  · subst hmn
    have HW := Lib.hid (show ∀ k, whereUp od m (k + 1) = (whereUp od m k).set (gi od k).toNat (k : Int) from fun k => rfl)
    have hsub : IntKind.i64.wrap ((m : Int) - 1) = (m : Int) - 1 := IntWalk.i64_in _ (by omega)
    go_enter Try.func122, Try.ntmps122
    go_wp2_with (refine wpList_makeI rfl (.tmp 13) rfl _ m rfl (by omega) ?_; intro w1 hown hb1)
    go_loopw [6] (fun i wr => ∃ k : Nat, k ≤ m ∧ i = .int .i64 k ∧ OI 2 wr w.heap.size (.slice (some ⟨w.heap.size, 0, none⟩) m m) (fillUp (fun _ => -1) m (fun _ => 0) k) ∧ Below w.heap.size w wr) (fun i _ => m - (intOf i).toNat)
    case atStart => exact ⟨0, Nat.zero_le _, rfl, by rw [fillUp_zero, ← fill_zeros]; exact hown, hb1⟩
    case round =>
      clear hown hb1
      obtain ⟨k, hk, rfl, ho, hbr⟩ := hrel
      by_cases hlt : k < m
      · have hcm := ho.cellAt (i := k) (by rw [fillUp_len]; exact hlt)
        have hfz := ho.hot (i := k) (by rw [fillUp_len])
        have HX := Lib.hid (fillUp_put (f := fun _ => -1) (g := fun _ => 0) hlt)
        have HO := Lib.hid ho
        clear ho
        go_wp2
        go_roundw
        case rel => exact ⟨k + 1, by omega, by go_num, by rw [← HX.out]; exact HO.out.set_ (by rw [fillUp_len]) (-1), below_set (by show w.heap.size ≤ w.heap.size; omega) hbr⟩
        case measure => simp [intOf]; omega
      · obtain rfl : k = m := by omega
        have HE := Lib.hid (fillUp_full (fun _ => -1) (fun _ => 0) k)
        rw [HE.out] at ho
        go_wp2
        go_loopw [7] (fun i wx => ∃ j : Nat, j ≤ k ∧ i = .int .i64 j ∧ goodUp od k j ∧ OI 2 wx w.heap.size (.slice (some ⟨w.heap.size, 0, none⟩) k k) (whereUp od k j) ∧ Below w.heap.size w wx) (fun i _ => k - (intOf i).toNat)
        case atStart => exact ⟨0, Nat.zero_le _, rfl, goodUp_zero _ _, ho, hbr⟩
        case round =>
          clear ho hbr
          obtain ⟨j, hj, rfl, hg, ho, hbr⟩ := hrel
          have HG := Lib.hid hg
          clear hg
          by_cases hlt : j < k
          · obtain ⟨bo, oo, rfl, hco⟩ := (ha.keep (keeps_below hbr)).at_ hlt
            have hji : (j : Int) < (k : Int) := by omega
            have hj0 : (0 : Int) ≤ (j : Int) := by omega
            by_cases hin : 0 ≤ gi od j ∧ gi od j < (k : Int)
            · obtain ⟨u, hu⟩ := Int.eq_ofNat_of_zero_le hin.1
              have huk : u < k := by omega
              have HIN := Lib.hid (show inR (u : Int) 0 ((k : Int) - 1) = true from decide_eq_true (by omega))
              have HIR := Lib.hid hin
              rw [hu] at hco
              have HU := Lib.hid hu
              clear hu hin
              go_wp2_with fail
              refine (l1In _ _ _ _).mono ?_; rintro e w2 ⟨rfl, hqx⟩
              rw [HIN.out]
              have hb2 := below_qt hqx (Below.refl wr.heap.size wr)
              have ho2 := ho.below hb2
              have hco2 := keeps_below hb2 _ _ hco
              have hw2 := below_then hb2 hbr.size hbr
              have hcm := ho2.cellAt (i := u) (by rw [where_len]; exact huk)
              have hfz := ho2.hot (i := u) (by rw [where_len])
              have hui : (u : Int) < (k : Int) := by omega
              have hu0 : (0 : Int) ≤ (u : Int) := by omega
              clear ho hqx hb2 hco hbr
              by_cases hneg : gi (whereUp od k j) u < 0
              · have hnn : ¬ 0 ≤ gi (whereUp od k j) u := by omega
                have HX := Lib.hid (show whereUp od k (j + 1) = (whereUp od k j).set u (j : Int) by rw [HW.out, HU.out]; simp)
                have HG2 := Lib.hid (goodUp_succ HG.out HIR.out (by rw [HU.out]; simpa using hneg))
                have HO := Lib.hid ho2
                clear ho2
                go_wp2
                go_roundw
                case rel => exact ⟨j + 1, by omega, by go_num, HG2.out, by rw [HX.out]; exact HO.out.set_ (by rw [where_len]) (j : Int), below_set (by show w.heap.size ≤ w.heap.size; omega) hw2⟩
                case measure => simp [intOf]; omega
              · have hnn : 0 ≤ gi (whereUp od k j) u := by omega
                have HE2 := Lib.hid (whereR_no (order_bad (od := od) (n := k) fun h => by have h3 := (h j hlt).2; rw [HU.out] at h3; exact hneg (by simpa using h3)))
                have hem := OI.empty (E := 2) (w := w2) (B := B) (Nat.le_trans hB hw2.size)
                have hbe := below_alloc (o := .cells #[] 2) (Nat.le_refl _) hw2
                clear ho2 hneg
                go_wp2
                go_ret
                exact ⟨_, rfl, by rw [HE2.out]; exact hem, hbe.mono hB⟩
            · have HIN := Lib.hid (show inR (gi od j) 0 ((k : Int) - 1) = false from decide_eq_false (by omega))
              have HE2 := Lib.hid (whereR_no (order_bad (od := od) (n := k) fun h => hin (h j hlt).1))
              clear hin
              go_wp2_with fail
              refine (l1In _ _ _ _).mono ?_; rintro e w2 ⟨rfl, hqx⟩
              rw [HIN.out]
              have hw2 := below_qt hqx hbr
              have hem := OI.empty (E := 2) (w := w2) (B := B) (Nat.le_trans hB hw2.size)
              have hbe := below_alloc (o := .cells #[] 2) (Nat.le_refl _) hw2
              clear ho
              go_wp2
              go_ret
              exact ⟨_, rfl, by rw [HE2.out]; exact hem, hbe.mono hB⟩
          · obtain rfl : j = k := by omega
            have HE2 := Lib.hid (whereR_yes (order_yes (od := od) (n := j) (HL.out) HG.out))
            go_wp2
            go_ret
            exact ⟨_, rfl, by rw [HE2.out]; exact ho.more hB, hbr.mono hB⟩
  · have hmi : ¬ (m : Int) = (n : Int) := by omega
    have HE2 := Lib.hid (whereR_no (order_len (od := od) (n := n) (by rw [HL.out]; exact hmn)))
    have hem := OI.empty (E := 2) (w := w) (B := B) hB
    have hbe := below_alloc (o := .cells #[] 2) hB (Below.refl _ w)
    clear hmn
    go_enter Try.func122, Try.ntmps122
    go_wp2
    go_ret
    exact ⟨_, rfl, by rw [HE2.out]; exact hem, hbe⟩


set_option maxRecDepth 100000 in
set_option maxHeartbeats 3200000 in
theorem specRenamed (s0 s1 s2 : Value) (g : ParD) (C : Option Addr) (m d : Nat) (od : List Int) (w : World) (B : Nat) (hB : B ≤ w.heap.size) (ha : RPv w s0 s1 s2 g) (hi : RI w C m d od) :
    Calls Try.prog 52 #[.agg #[s0, s1, s2], .slice C m d] w fun e w' => ∃ t0 t1 t2, e = .returned (.tuple #[.agg #[t0, t1, t2], .bool (okRen g od)]) ∧ OPar w' B t0 t1 t2 (renG g od) ∧ Below B w w' := by
  have har := ha
  obtain ⟨A0, n0, c0, A1, n1, c1, A2, n2, c2, rfl, rfl, rfl⟩ := ha.form
  have hr := ha.ri; have hrr := ha.rii; have hrp := ha.rp
  have b1 := hr.cap; have b2 := hr.top; have b3 := hrr.cap; have b4 := hrr.top; have b5 := hrp.cap; have b6 := hrp.top; have b7 := hi.cap; have b8 := hi.top
  have HL := Lib.hid hr.len; have HM := Lib.hid hrr.len; have HP := Lib.hid hrp.len; have HD := Lib.hid hi.len
  have hwL : Below w.heap.size w (((w.alloc (.cells #[.slice A0 n0 c0, .slice A1 n1 c1, .slice A2 n2 c2] 44)).alloc (.cells #[.slice none 0 0, .slice none 0 0, .slice none 0 0] 44)).alloc (.cells #[.slice none 0 0, .slice none 0 0, .slice none 0 0] 44)) := below_alloc (Nat.le_refl _) (below_alloc (Nat.le_refl _) (below_alloc (Nat.le_refl _) (Below.refl _ _)))
  have bxL := ((Box.new w 44 #[.slice A0 n0 c0, .slice A1 n1 c1, .slice A2 n2 c2]).alloc (.cells #[.slice none 0 0, .slice none 0 0, .slice none 0 0] 44)).alloc (.cells #[.slice none 0 0, .slice none 0 0, .slice none 0 0] 44)
  have hGL : GSx (w.heap.size + 3) w (((w.alloc (.cells #[.slice A0 n0 c0, .slice A1 n1 c1, .slice A2 n2 c2] 44)).alloc (.cells #[.slice none 0 0, .slice none 0 0, .slice none 0 0] 44)).alloc (.cells #[.slice none 0 0, .slice none 0 0, .slice none 0 0] 44)) (w.heap.size + 1) (w.heap.size + 1 + 1) (.slice none 0 0) (.slice none 0 0) (.slice none 0 0) ([], [], []) := ⟨hwL, by simp, ⟨by omega, by omega, by omega⟩, (Box.new' (by simp)).alloc _, Box.new' (by simp), OPar.nil _ _⟩
  have q0 : (((w.alloc (.cells #[.slice A0 n0 c0, .slice A1 n1 c1, .slice A2 n2 c2] 44)).alloc (.cells #[.slice none 0 0, .slice none 0 0, .slice none 0 0] 44)).alloc (.cells #[.slice none 0 0, .slice none 0 0, .slice none 0 0] 44)).cell? ⟨w.heap.size, 0, none⟩ = some (.slice A0 n0 c0) := bxL.cell 0; have q1 : (((w.alloc (.cells #[.slice A0 n0 c0, .slice A1 n1 c1, .slice A2 n2 c2] 44)).alloc (.cells #[.slice none 0 0, .slice none 0 0, .slice none 0 0] 44)).alloc (.cells #[.slice none 0 0, .slice none 0 0, .slice none 0 0] 44)).cell? ⟨w.heap.size, 1, none⟩ = some (.slice A1 n1 c1) := bxL.cell 1; have q2 : (((w.alloc (.cells #[.slice A0 n0 c0, .slice A1 n1 c1, .slice A2 n2 c2] 44)).alloc (.cells #[.slice none 0 0, .slice none 0 0, .slice none 0 0] 44)).alloc (.cells #[.slice none 0 0, .slice none 0 0, .slice none 0 0] 44)).cell? ⟨w.heap.size, 2, none⟩ = some (.slice A2 n2 c2) := bxL.cell 2
  cases hp : parB g with
  | false =>
    have E := Lib.hid (okRen_no1 (od := od) hp)
    have E2 := Lib.hid (renG_no E.out)
    have HPB := Lib.hid hp
    clear hp
    go_enter Try.func52, Try.ntmps52
    go_wp2_with fail
    refine (specParityOk _ _ _ g _ _ (Nat.le_refl _) (har.keep (keeps_below hwL))).mono ?_; rintro e w1 ⟨rfl, hb1⟩
    rw [HPB.out]
    have hG1 := hGL.move hb1
    clear q0 q1 q2 hGL bxL hwL
    have z0 := hG1.z0; have z1 := hG1.z1; have z2 := hG1.z2
    have F0 := hG1.hotZ 0; have F1 := hG1.hotZ 1; have F2 := hG1.hotZ 2
    have g0 := hG1.c0; have g1 := hG1.c1; have g2 := hG1.c2
    obtain ⟨fb, fx⟩ := hG1.fin0
    have R0 := fx.c0; have R1 := fx.c1; have R2 := fx.c2
    go_wp2
    exact bodyPost_ret (v := .tuple #[.agg #[.slice none 0 0, .slice none 0 0, .slice none 0 0], .bool false]) (by simp [results, Try.results52, go_sem, R0, R1, R2]) rfl ⟨_, _, _, by rw [E.out], by rw [E2.out]; exact OPar.nil _ _, fb.mono hB⟩
  | true =>
    have HPB := Lib.hid hp
    have hf := finePar_of hp
    have hn0 := hf.1.2.1; have hn1 := hf.1.2.2.1; have hn2 := hf.2.1; have hn3 := hf.1.1
    rw [HL.out] at hn0 hn1 hn2 hn3
    rw [HM.out] at hn1
    rw [HP.out] at hn2
    have HF := Lib.hid hf
    have H10 := Lib.hid hn1; have H20 := Lib.hid hn2
    clear hp hf
    have hnn1 : 1 ≤ n2 := by omega
    have hnn2 : n2 ≤ 256 := by omega
    clear hn1 hn2
    go_enter Try.func52, Try.ntmps52
    go_wp2_with fail
    refine (specParityOk _ _ _ g _ _ (Nat.le_refl _) (har.keep (keeps_below hwL))).mono ?_; rintro e w1 ⟨rfl, hb1⟩
    rw [HPB.out]
    have hG1 := hGL.move hb1
    have hz0 := hG1.size
    have hX1 := bxL.on hb1
    have hw1 := below_then hb1 hwL.size hwL
    clear q0 q1 q2 hGL bxL hwL hb1
    have q0 : w1.cell? ⟨w.heap.size, 0, none⟩ = some (.slice A0 n0 c0) := hX1.cell 0; have q1 : w1.cell? ⟨w.heap.size, 1, none⟩ = some (.slice A1 n1 c1) := hX1.cell 1; have q2 : w1.cell? ⟨w.heap.size, 2, none⟩ = some (.slice A2 n2 c2) := hX1.cell 2
    go_wp2_with fail
    refine (l14Where _ _ _ od n2 _ _ (Nat.le_refl _) (hi.keep (keeps_below hw1)) hnn1 hnn2).mono ?_; rintro e w2 ⟨vA, rfl, hoA, hb2⟩
    have hG2 := hG1.move hb2
    have hX2 := hX1.on hb2
    have hw2 := below_then hb2 hw1.size hw1
    clear q0 q1 q2 hG1 hX1 hw1
    cases hor : orderB od n2 with
    | false =>
      have E := Lib.hid (okRen_no2 (g := g) (od := od) (by rw [HP.out]; exact hor))
      have E2 := Lib.hid (renG_no E.out)
      rw [whereR_no hor] at hoA
      obtain ⟨Aw, cw, rfl⟩ := hoA.form
      clear hor
      have z0 := hG2.z0; have z1 := hG2.z1; have z2 := hG2.z2
      have F0 := hG2.hotZ 0; have F1 := hG2.hotZ 1; have F2 := hG2.hotZ 2
      have g0 := hG2.c0; have g1 := hG2.c1; have g2 := hG2.c2
      obtain ⟨fb, fx⟩ := hG2.fin0
      have R0 := fx.c0; have R1 := fx.c1; have R2 := fx.c2
      go_wp2
      exact bodyPost_ret (v := .tuple #[.agg #[.slice none 0 0, .slice none 0 0, .slice none 0 0], .bool false]) (by simp [results, Try.results52, go_sem, R0, R1, R2]) rfl ⟨_, _, _, by rw [E.out], by rw [E2.out]; exact OPar.nil _ _, fb.mono hB⟩
    | true =>
      have E := Lib.hid (okRen_yes HPB.out (od := od) (by rw [HP.out]; exact hor))
      obtain ⟨hol, hgood⟩ := order_parts hor
      rw [HD.out] at hol
      subst hol
      rw [whereR_yes hor] at hoA
      have E2 := Lib.hid (show renG g od = renUpG g od (whereUp od m m) m by rw [renG_yes E.out, HP.out])
      have HGD := Lib.hid hgood
      clear hor hgood
      have hal := where_len od m m
      have HAW := Lib.hid hal
      obtain ⟨ga, ca, e1⟩ := hoA.form2 (by rw [hal]; exact hnn1)
      rw [hal] at e1
      subst e1
      clear hal
      have hga := (hoA.lt ga rfl)
      have hga1 := hga.1; have hga2 := hga.2
      have bca := hoA.reads.cap; have bct := hoA.reads.top
      clear hga
      generalize whereUp od m m = at_ at *
      have hx1 := hX2.lt
      have hm0 : ((m : Int) == 0) = false := by simp; omega
      have hz2 := hG2.size
      have hz1 := hb2.size
      have hGS : GSx w2.heap.size w w2 (w.heap.size + 1) (w.heap.size + 1 + 1) (.slice none 0 0) (.slice none 0 0) (.slice none 0 0) (renUpG g od at_ 0) := ⟨hG2.below, Nat.le_refl _, ⟨by omega, by omega, by omega⟩, hG2.zero, hG2.box, OPar.nil _ _⟩
      have hcS := Chg.refl (fun y => y = (w.heap.size + 1 + 1)) w2
      clear hG2
      go_wp2
      go_loopw [8] (fun i wr => ∃ (k : Nat) (u0 u1 u2 : Value), k ≤ m ∧ i = .int .i64 k ∧ GSx w2.heap.size w wr (w.heap.size + 1) (w.heap.size + 1 + 1) u0 u1 u2 (renUpG g od at_ k) ∧ Chg (fun y => y = (w.heap.size + 1 + 1)) w2 wr) (fun i _ => m - (intOf i).toNat)
      case atStart => exact ⟨0, _, _, _, Nat.zero_le _, rfl, hGS, hcS⟩
      case round =>
        clear hGS hcS
        obtain ⟨k, u0, u1, u2, hk, rfl, hG, hC⟩ := hrel
        obtain ⟨wo, rfl⟩ : ∃ wo : World, wo = wr := ⟨_, rfl⟩
        have hwr := hG.below
        have hsz := hG.size
        have hX : Box wo w.heap.size 44 #[.slice A0 n0 c0, .slice A1 n1 c1, .slice A2 m c2] := (hC.block _ hX2.lt (fun e => by have h3 : w.heap.size = w.heap.size + 1 + 1 := e; omega)).trans hX2
        have hoR := hoA.chg hC (fun y hy e => by have h3 : y = w.heap.size + 1 + 1 := e; have h4 : some ga = some y := hy; injection h4 with h4; omega)
        have q0 : wo.cell? ⟨w.heap.size, 0, none⟩ = some (.slice A0 n0 c0) := hX.cell 0; have q1 : wo.cell? ⟨w.heap.size, 1, none⟩ = some (.slice A1 n1 c1) := hX.cell 1; have q2 : wo.cell? ⟨w.heap.size, 2, none⟩ = some (.slice A2 m c2) := hX.cell 2
        obtain ⟨U0, v0, U1, v1, U2, v2, rfl, rfl, rfl⟩ := hG.own.form
        by_cases hlt : k < m
        · obtain ⟨bd, od_, rfl, hcd⟩ := (hi.keep (keeps_below hwr)).at_ hlt
          have hbd := (HGD.out k hlt).1
          obtain ⟨v, hv⟩ := Int.eq_ofNat_of_zero_le hbd.1
          rw [hv] at hcd hbd
          have HV := Lib.hid hv
          clear hv
          have hvm : v < m := by omega
          have hlt0 : v < n0 := by have := H20.out; omega
          have hlt1 : v < n1 := by have := H10.out; have := H20.out; omega
          clear hbd
          obtain ⟨bo, oo, rfl, hco⟩ := hr.at_ hlt0
          obtain ⟨bn, on, An, nn, cn, rfl, hcn, rn⟩ := hrr.at_ hlt1
          obtain ⟨bp, op, rfl, hcp⟩ := hrp.at_ hvm
          have lo_ := cell_lt hco; have lp_ := cell_lt hcp
          have ko := below_cell hwr hco; have kn := below_cell hwr hcn; have kp := below_cell hwr hcp
          have x1 : ¬ w.heap.size + 1 + 1 = bo := by omega
          have x2 : ¬ w.heap.size + 1 + 1 = bp := by omega
          have hki : (k : Int) < (m : Int) := by omega
          have hk0 : (0 : Int) ≤ (k : Int) := by omega
          have hvi : (v : Int) < (m : Int) := by omega
          have hvi0 : (v : Int) < (n0 : Int) := by omega
          have hvi1 : (v : Int) < (n1 : Int) := by omega
          have hv0 : (0 : Int) ≤ (v : Int) := by omega
          have HRW := Lib.hid (HF.out.1.2.2.2 v (by rw [HL.out]; exact hlt0)).2
          have HNN := Lib.hid rn.len
          have hnn : nn ≤ 16 := by have := HRW.out.1.2; rw [rn.len] at this; exact this
          have c1' := rn.cap; have c2' := rn.top
          have hem := OI.empty (E := 2) (w := wo) (B := wo.heap.size) (Nat.le_refl _)
          have hbE : Below wo.heap.size wo (wo.alloc (.cells #[] 2)) := below_alloc (Nat.le_refl _) (Below.refl _ _)
          have HN := Lib.hid (show renUpG g od at_ (k + 1) = addV (renUpG g od at_ k) (gi g.1 v) (gi g.2.2 v) (putsL (newNx at_ (gl g.2.1 v))) by rw [renUpG, HV.out]; simp)
          go_wp2
          go_loopw [10, 11] (fun u i wr => ∃ j : Nat, j ≤ nn ∧ i = .int .i64 j ∧ OI 2 wr wo.heap.size u (putsL (newNx at_ ((gl g.2.1 v).take j))) ∧ Below wo.heap.size wo wr) (fun _ i _ => nn - (intOf i).toNat)
          case atStart => exact ⟨0, Nat.zero_le _, rfl, by rw [List.take_zero]; exact hem, hbE⟩
          case round =>
            clear hem hbE
            obtain ⟨j, hj, rfl, ho, hbi⟩ := hrel
            have hXi := hX.on hbi
            have hwi := below_then hbi hwr.size hwr
            clear q0 q1 q2 kn hcd
            have q0 : wr.cell? ⟨w.heap.size, 0, none⟩ = some (.slice (some ⟨bo, oo, none⟩) n0 c0) := hXi.cell 0; have q1 : wr.cell? ⟨w.heap.size, 1, none⟩ = some (.slice (some ⟨bn, on, none⟩) n1 c1) := hXi.cell 1; have q2 : wr.cell? ⟨w.heap.size, 2, none⟩ = some (.slice (some ⟨bp, op, none⟩) m c2) := hXi.cell 2
            have kn := below_cell hwi hcn
            obtain ⟨Au, cu, rfl⟩ := ho.form
            have hpl := putsL_len (newNx at_ ((gl g.2.1 v).take j))
            rw [newNx_len, List.length_take] at hpl
            by_cases hjl : j < nn
            · obtain ⟨br, ore, rfl, hcr⟩ := (rn.keep (keeps_below hwi)).at_ hjl
              have hrb := set_mem HRW.out.2 (gi_mem (xs := gl g.2.1 v) (i := j) (by rw [HNN.out]; exact hjl))
              obtain ⟨u, hu⟩ := Int.eq_ofNat_of_zero_le hrb.1
              have hum : u < m := by have := H20.out; have h8 := hrb.2; rw [HL.out] at h8; omega
              rw [hu] at hcr
              have HNX := Lib.hid (show putsL (newNx at_ ((gl g.2.1 v).take (j + 1))) = putL (putsL (newNx at_ ((gl g.2.1 v).take j))) (gi at_ u) by rw [newNx_succ (by rw [HNN.out]; exact hjl), putsL_snoc, hu]; simp)
              have hca := (hoR.below hbi).cellAt (i := u) (by rw [HAW.out]; exact hum)
              have hui : (u : Int) < (m : Int) := by omega
              have hu0 : (0 : Int) ≤ (u : Int) := by omega
              have hji : (j : Int) < (nn : Int) := by omega
              have hj0 : (0 : Int) ≤ (j : Int) := by omega
              clear hrb hu
              go_wp2_with fail
              refine (l14Put _ _ _ _ (gi at_ u) _ _ (Nat.le_refl _) ho.reads (by omega)).mono ?_; rintro e wp ⟨vp, rfl, hop, hbp⟩
              go_wp2
              go_roundw
              case rel => exact ⟨j + 1, by omega, by go_num, by rw [HNX.out]; exact hop.more hbi.size, below_then hbp hbi.size hbi⟩
              case measure => simp [intOf]; omega
            · obtain rfl : j = nn := by omega
              rw [List.take_of_length_le (by rw [HNN.out]; exact Nat.le_refl _)] at ho hpl ⊢
              have hGi := hG.move hbi
              have S0 := hGi.c0; have S1 := hGi.c1; have S2 := hGi.c2
              have ko := below_cell hwi hco; have kp := below_cell hwi hcp
              have hbD : Below wo.heap.size wo wr.drew := Below.drew hbi
              have hoD := ho.drew
              go_wp2_with fail
              refine wp_region_held_drew (S := (fun w' => w'.cell? ⟨w.heap.size, 0, none⟩ = some (.slice (some ⟨bo, oo, none⟩) n0 c0) ∧ w'.cell? ⟨w.heap.size, 2, none⟩ = some (.slice (some ⟨bp, op, none⟩) m c2) ∧ w'.cell? ⟨bo, oo + v, none⟩ = some (.int .i64 (gi g.1 v)) ∧ w'.cell? ⟨bp, op + v, none⟩ = some (.int .i64 (gi g.2.2 v)))) (by kernel_rfl) (⟨q0, q2, ko, kp⟩) (fun hHeld => ?_)
              refine takeH1 (v := ?_) (by kernel_rfl) (by kernel_rfl) (by kernel_rfl) (fun _ _ _ h => h) hHeld (by rfl) ?_ ?_
              rotate_left; · (intro w hSw; (try dsimp only at hSw); go_simp; try with_reducible rfl)
              try simp only [Act.put, List.setIfInBounds_toArray, List.set_cons_zero, List.set_cons_succ]
              refine takeH2 (v := ?_) (by kernel_rfl) (by kernel_rfl) (by kernel_rfl) (fun _ _ _ h => h) hHeld (by rfl) ?_ ?_
              rotate_left; · (intro w hSw; (try dsimp only at hSw); go_simp; try with_reducible rfl)
              try simp only [Act.put, List.setIfInBounds_toArray, List.set_cons_zero, List.set_cons_succ]
              refine takeH3 (v := ?_) (by kernel_rfl) (by kernel_rfl) (by kernel_rfl) (fun _ _ _ h => h) hHeld (by rfl) ?_ ?_
              rotate_left; · (intro w hSw; (try dsimp only at hSw); go_simp; try with_reducible rfl)
              try simp only [Act.put, List.setIfInBounds_toArray, List.set_cons_zero, List.set_cons_succ]
              refine takeH4 (v := ?_) (by kernel_rfl) (by kernel_rfl) (by kernel_rfl) (fun _ _ _ h => h) hHeld (by rfl) ?_ ?_
              rotate_left; · (intro w hSw; (try dsimp only at hSw); go_simp; try with_reducible rfl)
              try simp only [Act.put, List.setIfInBounds_toArray, List.set_cons_zero, List.set_cons_succ]
              refine takeH5 (v := ?_) (by kernel_rfl) (by kernel_rfl) (by kernel_rfl) (fun _ _ _ h => h) hHeld (by rfl) ?_ ?_
              rotate_left; · (intro w hSw; (try dsimp only at hSw); go_simp; try with_reducible rfl)
              try simp only [Act.put, List.setIfInBounds_toArray, List.set_cons_zero, List.set_cons_succ]
              refine takeH6 (v := ?_) (by kernel_rfl) (by kernel_rfl) (by kernel_rfl) (fun _ _ _ h => h) hHeld (by rfl) ?_ ?_
              rotate_left; · (intro w hSw; (try dsimp only at hSw); go_simp; try with_reducible rfl)
              try simp only [Act.put, List.setIfInBounds_toArray, List.set_cons_zero, List.set_cons_succ]
              refine takeH7 (v := ?_) (by kernel_rfl) (by kernel_rfl) (by kernel_rfl) (fun _ _ _ h => h) hHeld (by rfl) ?_ ?_
              rotate_left; · (intro w hSw; (try dsimp only at hSw); go_simp; try with_reducible rfl)
              try simp only [Act.put, List.setIfInBounds_toArray, List.set_cons_zero, List.set_cons_succ]
              refine takeH8 (v := ?_) (by kernel_rfl) (by kernel_rfl) (by kernel_rfl) (fun _ _ _ h => h) hHeld (by rfl) ?_ ?_
              rotate_left; · (intro w hSw; (try dsimp only at hSw); go_simp; try with_reducible rfl)
              try simp only [Act.put, List.setIfInBounds_toArray, List.set_cons_zero, List.set_cons_succ]
              refine takeH9 (v := ?_) (by kernel_rfl) (by kernel_rfl) (by kernel_rfl) (fun _ _ _ h => h) hHeld (by rfl) ?_ ?_
              rotate_left; · (intro w hSw; (try dsimp only at hSw); go_simp; try with_reducible rfl)
              try simp only [Act.put, List.setIfInBounds_toArray, List.set_cons_zero, List.set_cons_succ]
              refine takeH10 (v := ?_) (by kernel_rfl) (by kernel_rfl) (by kernel_rfl) (fun _ _ _ h => h) hHeld (by rfl) ?_ ?_
              rotate_left; · (intro w hSw; (try dsimp only at hSw); go_simp; try with_reducible rfl)
              try simp only [Act.put, List.setIfInBounds_toArray, List.set_cons_zero, List.set_cons_succ]
              refine takeH11 (v := ?_) (by kernel_rfl) (by kernel_rfl) (by kernel_rfl) (fun _ _ _ h => h) hHeld (by rfl) ?_ ?_
              rotate_left; · (intro w hSw; (try dsimp only at hSw); go_simp; try with_reducible rfl)
              try simp only [Act.put, List.setIfInBounds_toArray, List.set_cons_zero, List.set_cons_succ]
              refine takeH12 (v := ?_) (by kernel_rfl) (by kernel_rfl) (by kernel_rfl) (fun _ _ _ h => h) hHeld (by rfl) ?_ ?_
              rotate_left; · (intro w hSw; (try dsimp only at hSw); go_simp; try with_reducible rfl)
              try simp only [Act.put, List.setIfInBounds_toArray, List.set_cons_zero, List.set_cons_succ]
              refine callH0 (by kernel_rfl) (fun K hK => ?_)
              go_simp
              refine hK.out _ _ (⟨q0, q2, ko, kp⟩) (fun hHeld => ?_)
              clear hK K
              try simp only [Act.put, List.setIfInBounds_toArray, List.set_cons_zero, List.set_cons_succ]
              refine callH13 (by kernel_rfl) (fun K hK => ?_)
              go_simp
              go_at_call 116
              refine (l14More _ _ _ _ _ _ _ _ wo _ w2.heap.size hsz hG.own hbD (by exact hoD) (renUpG_small (by omega))).mono ?_
              rintro e wd ⟨t0, t1, t2, rfl, hod, hbd⟩
              obtain ⟨T0, d0, T1, d1, T2, d2, rfl, rfl, rfl⟩ := hod.form
              replace hbd := (hbD.mono hsz).trans hbd
              obtain ⟨k1, k2, k3, k4⟩ := hG.call hbd
              have hX3 := hX.below hbd (by omega)
              have m0 := k2.hot 0
              have m1 := k2.hot 1
              have m2 := k2.hot 2
              have S0 : wd.cell? ⟨w.heap.size + 1 + 1, 0, none⟩ = some (.slice U0 (renUpG g od at_ k).1.length v0) := k2.cell 0
              have S1 : wd.cell? ⟨w.heap.size + 1 + 1, 1, none⟩ = some (.slice U1 (renUpG g od at_ k).2.1.length v1) := k2.cell 1
              have S2 : wd.cell? ⟨w.heap.size + 1 + 1, 2, none⟩ = some (.slice U2 (renUpG g od at_ k).2.2.length v2) := k2.cell 2
              have q0 : wd.cell? ⟨w.heap.size, 0, none⟩ = some (.slice (some ⟨bo, oo, none⟩) n0 c0) := hX3.cell 0
              have q2 : wd.cell? ⟨w.heap.size, 2, none⟩ = some (.slice (some ⟨bp, op, none⟩) m c2) := hX3.cell 2
              have ko := below_cell k3 hco
              have kp := below_cell k3 hcp
              go_wp2_with fail
              refine hK.out _ _ (⟨q0, q2, ko, kp⟩) (fun hHeld => ?_)
              clear hK K
              try simp only [Act.put, List.setIfInBounds_toArray, List.set_cons_zero, List.set_cons_succ]
              refine callH14 (by kernel_rfl) (fun K hK => ?_)
              go_simp
              refine hK.out _ _ (by refine ⟨?_, ?_, ?_, ?_⟩ <;> simp [World.cell?_setCell_other, *]) (fun hHeld => ?_)
              clear hK K
              try simp only [Act.put, List.setIfInBounds_toArray, List.set_cons_zero, List.set_cons_succ]
              refine wpAnyH_done (by kernel_rfl) ?_ _
              all_goals
                have hG4 := hG.store hbd hod
                have hC4 := (hC.then_below hbd (Nat.le_refl _)).push (Chg.set3 wd (w.heap.size + 1 + 1) (.slice T0 (addV (renUpG g od at_ k) (gi g.1 v) (gi g.2.2 v) (putsL (newNx at_ (gl g.2.1 v)))).1.length d0) (.slice T1 (addV (renUpG g od at_ k) (gi g.1 v) (gi g.2.2 v) (putsL (newNx at_ (gl g.2.1 v)))).2.1.length d1) (.slice T2 (addV (renUpG g od at_ k) (gi g.1 v) (gi g.2.2 v) (putsL (newNx at_ (gl g.2.1 v)))).2.2.length d2)) (fun x hx => .inl hx)
                have HG4 := Lib.hid hG4; have HC4 := Lib.hid hC4
                clear hG4 hC4
                go_wp2
                exact ⟨⟨k + 1, _, _, _, by omega, by go_num, by rw [HN.out]; exact HG4.out, HC4.out⟩, by simp [intOf]; omega⟩
        · obtain rfl : k = m := by omega
          have g0 := hG.c0; have g1 := hG.c1; have g2 := hG.c2
          have z0 := hG.z0; have z1 := hG.z1; have z2 := hG.z2
          have F0 := hG.hotZ 0; have F1 := hG.hotZ 1; have F2 := hG.hotZ 2
          obtain ⟨hF1, hF2, hF3⟩ := hG.fin
          have R0 := hF3.c0; have R1 := hF3.c1; have R2 := hF3.c2
          go_wp2
          exact bodyPost_ret (v := .tuple #[.agg #[.slice U0 (renUpG g od at_ k).1.length v0, .slice U1 (renUpG g od at_ k).2.1.length v1, .slice U2 (renUpG g od at_ k).2.2.length v2], .bool true]) (by simp [results, Try.results52, go_sem, R0, R1, R2]) rfl ⟨_, _, _, by rw [E.out], by rw [E2.out]; exact hF1.more (by omega), hF2.mono hB⟩
end Go.Proofs.Ytefjhkcafcchlaa
