/- DiceGame, spec. -/
import Derived.Test.YtefjhkcafcchlaaDraw
import Derived.Test.YtefjhkcafcchlaaMore
import Derived.Test.YtefjhkcafcchlaaGame2
import Derived.Test.YtefjhkcafcchlaaDiceS
import Derived.Test.YtefjhkcafcchlaaAcc
namespace Go.Proofs.Ytefjhkcafcchlaa
open Go.RowKit

def okDice (n p o : Int) : Bool := inR n 1 256 && (inR p 1 41 && inR o 1 16)
def diceP (s n p o : Int) : ParD := if okDice n p o = true then (diceUp (seedD s) n p o n.toNat).1 else ([], [], [])
theorem diceP_no {s n p o : Int} (h : okDice n p o = false) : diceP s n p o = ([], [], []) := by unfold diceP; rw [h]; rfl
theorem diceP_yes {s p o : Int} {n : Nat} (h : okDice n p o = true) : diceP s n p o = (diceUp (seedD s) n p o n).1 := by unfold diceP; rw [if_pos h]; congr 1
theorem dice_tot (s n p o : Int) : (ptot (diceP s n p o) : Int) ≤ 1048576 := by
  unfold diceP
  split
  · rename_i h
    unfold okDice at h
    rw [Bool.and_eq_true, Bool.and_eq_true] at h
    have h1' := of_decide_eq_true h.1
    have h3' := of_decide_eq_true h.2.2
    have h1 := diceUp_len (seedD s) n p o n.toNat
    have h2 := diceUp_tot (s0 := seedD s) (n := n) (p := p) h3' n.toNat
    unfold ptot artot
    omega
  · simp [ptot, artot, tot]

/-- the state's block has been written -/
theorem GSx.tick {B : Nat} {w0 wr w : World} {br bg bd : Nat} {s0 s1 s2 : Value} {g : ParD} (h : GSx B w0 wr br bg s0 s1 s2 g) (hc : Chg (fun y => y = bd) wr w) (h1 : bd ≠ br) (h2 : bd ≠ bg) (h3 : bd < B) (h4 : w0.heap.size ≤ bd) : GSx B w0 w br bg s0 s1 s2 g :=
  ⟨h.1.trans (hc.below h.1.size (fun x hx => by have h5 : x = bd := hx; omega)), Nat.le_trans h.size hc.size, h.ord, h.zero.chg hc (fun e => h1 e.symm), h.box.chg hc (fun e => h2 e.symm), h.own.chg hc (fun x hx => by have h5 : x = bd := hx; omega)⟩
/-- seen from a world in which the state's block holds what it holds now, nothing old has turned -/
theorem below_tick {W w : World} {bd : Nat} {t : TypeId} {x y : Value} (hc : Chg (fun z => z = bd) W w) (hW : Box W bd t #[x]) (hw : Box w bd t #[y]) : Below (W.setCell ⟨bd, 0, none⟩ y).heap.size (W.setCell ⟨bd, 0, none⟩ y) w := by
  have h1 : Box (W.setCell ⟨bd, 0, none⟩ y) bd t #[y] := chg_box hW y
  have h2 : Chg (fun z => z = bd) W (W.setCell ⟨bd, 0, none⟩ y) := Chg.set ⟨bd, 0, none⟩ y
  have hs : (W.setCell ⟨bd, 0, none⟩ y).heap.size = W.heap.size := by simp
  refine ⟨hc.os.trans h2.os.symm, hc.tape.trans h2.tape.symm, hc.output.trans h2.output.symm, by rw [hs]; exact hc.size, fun k hk => ?_⟩
  rw [hs] at hk
  by_cases e : k = bd
  · subst e
    exact hw.trans h1.symm
  · exact (hc.block k hk e).trans (h2.block k hk e).symm

set_option maxRecDepth 100000 in
set_option maxHeartbeats 3200000 in
theorem specDice (s n p o : Int) (w : World) (B : Nat) (hB : B ≤ w.heap.size) :
    Calls Try.prog 50 #[.int .i64 s, .int .i64 n, .int .i64 p, .int .i64 o] w fun e w' => ∃ s0 s1 s2, e = .returned (.tuple #[.agg #[s0, s1, s2], .bool (okDice n p o)]) ∧ OPar w' B s0 s1 s2 (diceP s n p o) ∧ Below B w w' := by
  have S0 := GSt.start w
  by_cases h1 : inR n 1 256 = true
  · by_cases h2 : inR p 1 41 = true
    · by_cases h3 : inR o 1 16 = true
      · have hE := Lib.hid (show okDice n p o = true by unfold okDice; rw [h1, h2, h3]; rfl)
        have h1' := of_decide_eq_true h1
        have h2' := of_decide_eq_true h2
        have h3' := of_decide_eq_true h3
        obtain ⟨N, rfl⟩ := Int.eq_ofNat_of_zero_le (show 0 ≤ n by omega)
        have hn1 : (1 : Int) ≤ (N : Int) := h1'.1
        have hn2 : (N : Int) ≤ 256 := h1'.2
        have hp1 : 1 ≤ p := h2'.1
        have hp2 : p ≤ 41 := h2'.2
        have ho1 : 1 ≤ o := h3'.1
        have ho2 : o ≤ 16 := h3'.2
        have hsd := seed_tmod s
        have hs1 := hsd.1; have hs2 := hsd.2
        have SI := Lib.hid (seed_in s)
        have hm : inD (seedD s) := seed_in s
        clear h1' h2' h3' hsd
        go_enter Try.func50, Try.ntmps50
        go_wp2_with fail
        refine (l1In _ _ _ _).mono ?_; rintro e w' ⟨rfl, q0, rfl⟩
        go_wp2_with fail
        refine (l1In _ _ _ _).mono ?_; rintro e w' ⟨rfl, q1, rfl⟩
        go_wp2_with fail
        refine (l1In _ _ _ _).mono ?_; rintro e w' ⟨rfl, q2, rfl⟩
        go_wp2
        rw [show (s.tmod 999999937 + 999999937) % 999999937 = s.tmod 999999937 % 999999937 by omega]
        go_loopw [12] (fun i wr => ∃ (k : Nat) (s0 s1 s2 : Value), k ≤ N ∧ i = .int .i64 k ∧ GSx (w.heap.size + 3) w wr w.heap.size (w.heap.size + 1) s0 s1 s2 (diceUp (seedD s) N p o k).1 ∧ Box wr (w.heap.size + 1 + 1) 120 #[.int .i64 (diceUp (seedD s) N p o k).2]) (fun i _ => N - (intOf i).toNat)
        case atStart =>
          have S1 := S0.move (below_alloc (o := .cells #[.int .i64 (seedD s)] 120) (Nat.le_refl _) (below_drewN (Below.refl _ _) (q0 + q1 + q2)))
          exact ⟨0, _, _, _, Nat.zero_le _, rfl, ⟨S1.below, by simp, ⟨Nat.le_refl _, by omega, by omega⟩, S1.zero, S1.box, OPar.nil _ _⟩, Box.new' (by simp)⟩
        case round =>
          obtain ⟨k, s0, s1, s2, hk, rfl, hst, hbx⟩ := hrel
          obtain ⟨A0, c0, A1, c1, A2, c2, rfl, rfl, rfl⟩ := hst.own.form
          have hDin : inD (diceUp (seedD s) N p o k).2 := diceUp_in SI.out k
          have hsm := diceUp_small (s0 := seedD s) (n := (N : Int)) (p := p) (o := o) (k := k) (by omega)
          by_cases hlt : k < N
          · have hki : (k : Int) < (N : Int) := by omega
            have HS := Lib.hid (show diceUp (seedD s) N p o (k + 1) = (addV (diceUp (seedD s) N p o k).1 (nxD (diceUp (seedD s) N p o k).2 % 2) (nxD (nxD (diceUp (seedD s) N p o k).2) % p) (putsL (drD (nxD (nxD (nxD (diceUp (seedD s) N p o k).2))) N (cntD (diceUp (seedD s) N p o k).2 o))), stD (nxD (nxD (nxD (diceUp (seedD s) N p o k).2))) (cntD (diceUp (seedD s) N p o k).2 o)) from rfl)
            generalize diceUp (seedD s) N p o k = D at *
            have hcq : nxD (nxD (nxD D.2)) % o + 1 = (cntD D.2 o : Int) := cntD_eq ho1
            have hcl := cntD_le (s := D.2) ⟨ho1, ho2⟩
            generalize cntD D.2 o = c at *
            obtain ⟨c, rfl⟩ : ∃ c', c = c' + 1 := ⟨c - 1, by omega⟩
            have HCQ := Lib.hid (show nxD (nxD (nxD D.2)) % o = (c : Int) by omega)
            clear hcq
            go_wp2_with fail
            refine (l14Under _ _ _ _ hbx hDin (by omega) (by omega)).mono ?_; rintro e wa ⟨rfl, hbxa, hca⟩
            have hsta := hst.tick hca (by omega) (by omega) (by omega) (by omega)
            go_wp2_with fail
            refine (l14Under _ _ _ _ hbxa (nxD_in _) (by omega) (by omega)).mono ?_; rintro e wb ⟨rfl, hbxb, hcb⟩
            have hstb := hsta.tick hcb (by omega) (by omega) (by omega) (by omega)
            have hem := OI.empty (E := 2) (w := wb) (B := wb.heap.size) (Nat.le_refl _)
            have hbE : Below wb.heap.size wb (wb.alloc (.cells #[] 2)) := below_alloc (Nat.le_refl _) (Below.refl _ _)
            have hbxE := hbxb.below hbE hbxb.lt
            have hlb := hbxb.lt
            go_wp2_with fail
            refine (l14Under _ _ _ _ hbxE (nxD_in _) (by omega) (by omega)).mono ?_; rintro e wc ⟨rfl, hbxc, hcc⟩
            rw [HCQ.out]
            have hch : Chg (fun y => y = w.heap.size + 1 + 1) wb wc := ((Chg.refl _ wb).then_below hbE (Nat.le_refl _)).trans hcc (fun _ h => h) (fun _ h => h)
            have hoc := hem.chg hcc (fun y hy e => by have h5 : y = w.heap.size + 1 + 1 := e; have h6 : some wb.heap.size = some y := hy; injection h6 with h6; omega)
            have hin3 : inD (nxD (nxD (nxD D.2))) := nxD_in _
            clear hst hsta hca hcb hcc hem hbE hbxE hbx hbxa
            go_wp2
            go_loopw [15, 16] (fun u i wr => ∃ (j m : Nat), j + m = c + 1 ∧ i = .int .i64 m ∧ OI 2 wr wb.heap.size u (putsL (drD (nxD (nxD (nxD D.2))) N j)) ∧ Box wr (w.heap.size + 1 + 1) 120 #[.int .i64 (stD (nxD (nxD (nxD D.2))) j)] ∧ Chg (fun y => y = w.heap.size + 1 + 1) wb wr) (fun _ i _ => (intOf i).toNat)
            case atStart => exact ⟨0, c + 1, by omega, by go_num, hoc, hbxc, hch⟩
            case round =>
              clear hoc hbxc hch
              obtain ⟨j, m, hjm, rfl, ho, hbx, hch⟩ := hrel
              obtain ⟨Av, cv, rfl⟩ := ho.form
              have hl1 := putsL_len (drD (nxD (nxD (nxD D.2))) N j)
              rw [drD_len] at hl1
              by_cases hm0 : 0 < m
              · obtain ⟨m, rfl⟩ : ∃ m', m = m' + 1 := ⟨m - 1, by omega⟩
                have hmi : (0 : Int) < ((m + 1 : Nat) : Int) := by omega
                have HP := Lib.hid (show putsL (drD (nxD (nxD (nxD D.2))) N (j + 1)) = putL (putsL (drD (nxD (nxD (nxD D.2))) N j)) (nxD (stD (nxD (nxD (nxD D.2))) j) % N) by rw [drD_succ, putsL_snoc]; rfl)
                have hji := stD_in hin3 j
                have hj17 : j ≤ 17 := by omega
                have hm17 : (m : Int) ≤ 16 := by omega
                have HJM := Lib.hid hjm
                clear hjm
                generalize putsL (drD (nxD (nxD (nxD D.2))) N j) = PJ at *
                generalize hSJ : stD (nxD (nxD (nxD D.2))) j = SJ at *
                have HSJ := Lib.hid hSJ
                clear hSJ
                go_wp2_with fail
                refine (l14Under _ _ _ _ hbx hji (by omega) (by omega)).mono ?_; rintro e wx ⟨rfl, hbx1, hc1⟩
                have ho1' := ho.chg hc1 (fun y hy e => by have h5 : y = w.heap.size + 1 + 1 := e; have := (ho.lt y hy).1; omega)
                have hch1 := chg_then hch hc1
                go_wp2_with fail
                refine (l14Put _ _ _ PJ _ _ _ (Nat.le_refl _) ho1'.reads (by omega)).mono ?_; rintro e wy ⟨vy, rfl, hoy, hby⟩
                have hs1' := hch1.size
                go_wp2
                go_roundw
                case rel => exact ⟨j + 1, m, by have := HJM.out; omega, by go_num, by rw [HP.out]; exact hoy.more hs1', by rw [show stD (nxD (nxD (nxD D.2))) (j + 1) = nxD SJ by rw [← HSJ.out]; rfl]; exact hbx1.below hby hbx1.lt, hch1.then_below hby hs1'⟩
                case measure => simp [intOf]
              · obtain rfl : m = 0 := by omega
                obtain rfl : j = c + 1 := by omega
                have hb2 := below_tick hch hbxb hbx
                have hst2 := hstb.tick hch (by omega) (by omega) (by omega) (by omega)
                have hcW : Chg (fun y => y = w.heap.size + 1 + 1) wb (wb.setCell ⟨w.heap.size + 1 + 1, 0, none⟩ (.int .i64 (stD (nxD (nxD (nxD D.2))) (c + 1)))) := Chg.set ⟨w.heap.size + 1 + 1, 0, none⟩ _
                have hpW := hstb.own.chg hcW (fun x hx => by have h5 : x = w.heap.size + 1 + 1 := hx; omega)
                have hszW : w.heap.size + 3 ≤ (wb.setCell ⟨w.heap.size + 1 + 1, 0, none⟩ (.int .i64 (stD (nxD (nxD (nxD D.2))) (c + 1)))).heap.size := by have := hstb.size; simp; omega
                have hoW : OI 2 wr (wb.setCell ⟨w.heap.size + 1 + 1, 0, none⟩ (.int .i64 (stD (nxD (nxD (nxD D.2))) (c + 1)))).heap.size (.slice Av (putsL (drD (nxD (nxD (nxD D.2))) N (c + 1))).length cv) (putsL (drD (nxD (nxD (nxD D.2))) N (c + 1))) := by simpa using ho
                have q0 := hst2.c0
                have q1 := hst2.c1
                have q2 := hst2.c2
                have zz : ¬ (0 : Int) < ((0 : Nat) : Int) := by omega
                go_wp2_with fail
                refine (l14More _ _ _ _ D.1 (nxD D.2 % 2) (nxD (nxD D.2) % p) (putsL (drD (nxD (nxD (nxD D.2))) N (c + 1))) _ _ (w.heap.size + 3) hszW hpW hb2 hoW hsm).mono ?_; rintro e w2 ⟨t0, t1, t2, rfl, ho2', hb3⟩
                obtain ⟨C0, d0, C1, d1, C2, d2, rfl, rfl, rfl⟩ := ho2'.form
                have st2 := hst2.store hb3 ho2'
                have hbF : Box w2 (w.heap.size + 1 + 1) 120 #[.int .i64 (stD (nxD (nxD (nxD D.2))) (c + 1))] := hbx.below hb3 (by omega)
                obtain ⟨bz, bg, bw, bs⟩ := hst2.call hb3
                have Q0 := bg.c0
                have Q1 := bg.c1
                have Q2 := bg.c2
                have F0 := bg.hot 0
                have F1 := bg.hot 1
                have F2 := bg.hot 2
                go_wp2
                exact ⟨⟨k + 1, _, _, _, by omega, by go_num, by rw [HS.out]; exact st2, by rw [HS.out]; exact hbF.far3 (by omega) _ _ _⟩, by simp [intOf]; omega⟩
          · obtain rfl : k = N := by omega
            have q0 := hst.c0
            have q1 := hst.c1
            have q2 := hst.c2
            have z0 := hst.z0
            have z1 := hst.z1
            have z2 := hst.z2
            have F0 := hst.hotZ 0
            have F1 := hst.hotZ 1
            have F2 := hst.hotZ 2
            obtain ⟨fo, fb, fx⟩ := hst.fin
            have R0 := fx.c0
            have R1 := fx.c1
            have R2 := fx.c2
            have HF := Lib.hid fo
            clear fo fx
            go_wp2
            refine bodyPost_ret (v := .tuple #[.agg #[.slice A0 (diceUp (seedD s) k p o k).1.1.length c0, .slice A1 (diceUp (seedD s) k p o k).1.2.1.length c1, .slice A2 (diceUp (seedD s) k p o k).1.2.2.length c2], .bool true]) (by simp [results, Try.results50, go_sem, R0, R1, R2]) rfl ⟨_, _, _, by rw [hE.out], ?_, fb.mono hB⟩
            rw [diceP_yes hE.out]
            exact HF.out.more (by omega)
      · replace h3 : inR o 1 16 = false := by simpa using h3
        have hE := Lib.hid (show okDice n p o = false by unfold okDice; rw [h1, h2, h3]; rfl)
        go_enter Try.func50, Try.ntmps50
        go_wp2_with fail
        refine (l1In _ _ _ _).mono ?_; rintro e w' ⟨rfl, q0, rfl⟩
        go_wp2_with fail
        refine (l1In _ _ _ _).mono ?_; rintro e w' ⟨rfl, q1, rfl⟩
        go_wp2_with fail
        refine (l1In _ _ _ _).mono ?_; rintro e w' ⟨rfl, q2, rfl⟩
        go_wp2
        obtain ⟨fb, fx⟩ := (S0.move (below_drewN (Below.refl _ _) (q0 + q1 + q2))).fin0
        have R0 := fx.c0
        have R1 := fx.c1
        have R2 := fx.c2
        refine bodyPost_ret (v := .tuple #[.agg #[.slice none 0 0, .slice none 0 0, .slice none 0 0], .bool false]) (by simp [results, Try.results50, go_sem, R0, R1, R2]) rfl ⟨_, _, _, by rw [hE.out], by rw [diceP_no hE.out]; exact OPar.nil _ _, fb.mono hB⟩
    · replace h2 : inR p 1 41 = false := by simpa using h2
      have hE := Lib.hid (show okDice n p o = false by unfold okDice; rw [h1, h2]; rfl)
      go_enter Try.func50, Try.ntmps50
      go_wp2_with fail
      refine (l1In _ _ _ _).mono ?_; rintro e w' ⟨rfl, q0, rfl⟩
      go_wp2_with fail
      refine (l1In _ _ _ _).mono ?_; rintro e w' ⟨rfl, q1, rfl⟩
      go_wp2
      obtain ⟨fb, fx⟩ := (S0.move (below_drewN (Below.refl _ _) (q0 + q1))).fin0
      have R0 := fx.c0
      have R1 := fx.c1
      have R2 := fx.c2
      refine bodyPost_ret (v := .tuple #[.agg #[.slice none 0 0, .slice none 0 0, .slice none 0 0], .bool false]) (by simp [results, Try.results50, go_sem, R0, R1, R2]) rfl ⟨_, _, _, by rw [hE.out], by rw [diceP_no hE.out]; exact OPar.nil _ _, fb.mono hB⟩
  · replace h1 : inR n 1 256 = false := by simpa using h1
    have hE := Lib.hid (show okDice n p o = false by unfold okDice; rw [h1]; rfl)
    go_enter Try.func50, Try.ntmps50
    go_wp2_with fail
    refine (l1In _ _ _ _).mono ?_; rintro e w' ⟨rfl, q0, rfl⟩
    go_wp2
    obtain ⟨fb, fx⟩ := (S0.move (below_drewN (Below.refl _ _) q0)).fin0
    have R0 := fx.c0
    have R1 := fx.c1
    have R2 := fx.c2
    refine bodyPost_ret (v := .tuple #[.agg #[.slice none 0 0, .slice none 0 0, .slice none 0 0], .bool false]) (by simp [results, Try.results50, go_sem, R0, R1, R2]) rfl ⟨_, _, _, by rw [hE.out], by rw [diceP_no hE.out]; exact OPar.nil _ _, fb.mono hB⟩
end Go.Proofs.Ytefjhkcafcchlaa
