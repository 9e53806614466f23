/- CliqueGame, spec and impl. -/
import Derived.Test.YtlepekglmofelaaGame
import Derived.Test.YtlepekglmofelaaLess
import Derived.Test.YtlepekglmofelaaMore
namespace Go.Proofs.Ytlepekglmofelaa
open Go.RowKit

/-- all but v below n -/
def cnxUp (v : Nat) (k : Nat) : List Int := pick (fun u => decide ((u : Int) ≠ (v : Int))) (fun u => (u : Int)) k
def cnx (n v : Nat) : List Int := cnxUp v n
theorem cnx_len (v k : Nat) : (cnxUp v k).length ≤ k := pick_len _ _ _
theorem cnx_at (v k : Nat) : cnxUp v (k + 1) = if k = v then cnxUp v k else cnxUp v k ++ [(k : Int)] := by
  unfold cnxUp
  by_cases e : k = v
  · rw [if_pos e, pick_no (by simp; omega)]
  · rw [if_neg e, pick_yes (by simp; omega)]
theorem cnx_less (n v : Nat) : lessL (allL n) [(v : Int)] = cnx n v := by
  unfold lessL lessUp cnx cnxUp
  rw [allL_len]
  refine pick_congr fun i hi => ?_
  rw [gi_all hi]
  refine ⟨?_, fun _ => rfl⟩
  unfold hasL
  simp
def cliqueUp (n k : Nat) : ParD := ((List.range k).map (fun (v : Nat) => (v : Int) % 2), (List.range k).map (cnx n), (List.range k).map (fun (v : Nat) => (v : Int)))
theorem cliqueUp_succ (n k : Nat) : cliqueUp n (k + 1) = addV (cliqueUp n k) ((k : Int) % 2) (k : Int) (cnx n k) := by
  unfold cliqueUp addV
  rw [List.range_succ, List.map_append, List.map_append, List.map_append]
  rfl
theorem cliqueUp_small {n k : Nat} (h : k ≤ 17) : small (cliqueUp n k) := by
  unfold small cliqueUp
  simp
  omega
def okClique (n : Int) : Bool := inR n 2 17
def cliqueP (n : Int) : ParD := if okClique n = true then cliqueUp n.toNat n.toNat else ([], [], [])
theorem cliqueP_no {n : Int} (h : okClique n = false) : cliqueP n = ([], [], []) := by unfold cliqueP; rw [h]; rfl
theorem cliqueP_yes {n : Nat} (h : okClique n = true) : cliqueP n = cliqueUp n n := by unfold cliqueP; rw [if_pos h]; rfl
theorem clique_tot (n : Int) : (ptot (cliqueP n) : Int) ≤ 1048576 := by
  unfold cliqueP
  split
  · rename_i h
    have h' := of_decide_eq_true h
    unfold cliqueUp ptot artot
    have := tot_ones (cnx n.toNat) n.toNat 17 (fun v => Nat.le_trans (cnx_len _ _) (by omega))
    simp
    omega
  · simp [ptot, artot, tot]

set_option maxRecDepth 100000 in
set_option maxHeartbeats 1600000 in
theorem specClique (n : Int) (w : World) (B : Nat) (hB : B ≤ w.heap.size) :
    Calls Try.prog 15 #[.int .i64 n] w fun e w' => ∃ s0 s1 s2, e = .returned (.tuple #[.agg #[s0, s1, s2], .bool (okClique n)]) ∧ OPar w' B s0 s1 s2 (cliqueP n) ∧ Below B w w' := by
  have S0 := GSt.start w
  by_cases h1 : okClique n = true
  · have h1' := of_decide_eq_true h1
    obtain ⟨N, rfl⟩ : ∃ N : Nat, n = (N : Int) := ⟨n.toNat, by omega⟩
    have hE := Lib.hid h1
    have hn1 : (2 : Int) ≤ (N : Int) := h1'.1
    have hn2 : (N : Int) ≤ 17 := h1'.2
    have h2 : inR (N : Int) 2 17 = true := h1
    clear h1 h1'
    go_enter Try.func15, Try.ntmps15
    go_wp2_with (go_at_call 68; refine (l1In _ _ _ _).mono ?_; rintro e w' ⟨rfl, q, rfl⟩)
    go_loopw [5] (fun i wr => ∃ (k : Nat) (s0 s1 s2 : Value), k ≤ N ∧ i = .int .i64 k ∧ GSt w wr s0 s1 s2 (cliqueUp N k)) (fun i _ => N - (intOf i).toNat)
    case atStart => exact ⟨0, _, _, _, Nat.zero_le _, rfl, S0.move (below_drewN (Below.refl _ _) _)⟩
    case round =>
      obtain ⟨wo, rfl⟩ : ∃ wo : World, wo = wr := ⟨_, rfl⟩
      obtain ⟨k, s0, s1, s2, hk, rfl, hst⟩ := hrel
      obtain ⟨A0, c0, A1, c1, A2, c2, rfl, rfl, rfl⟩ := hst.own.form
      have hsz := hst.size
      by_cases hlt : k < N
      · have hki : (k : Int) < (N : Int) := by omega
        go_wp2
        go_loopw [6, 7] (fun v u wr => ∃ j : Nat, j ≤ N ∧ u = .int .i64 j ∧ OI 2 wr wo.heap.size v (cnxUp k j) ∧ Below wo.heap.size wo wr) (fun _ u _ => N - (intOf u).toNat)
        case atStart => exact ⟨0, Nat.zero_le _, rfl, OI.empty (Nat.le_refl _), by repeat (first | with_reducible assumption | with_reducible exact Below.refl _ _ | with_reducible refine below_drewN ?_ _ | with_reducible refine Below.drew ?_ | with_reducible refine below_alloc (Nat.le_refl _) ?_)⟩
        case round =>
          obtain ⟨j, hj, rfl, ho, hbi⟩ := hrel
          have hup := cnx_len k j
          have hsi := hbi.size
          by_cases hjl : j < N
          · have hx := cnx_at k j
            by_cases he : j = k
            · rw [if_pos he] at hx
              have HX := Lib.hid hx
              have hne : ((j : Int) != (k : Int)) = false := by simp; omega
              clear hx he
              go_wp2
              go_roundw
              case rel => exact ⟨j + 1, by omega, by go_num, by rw [HX.out]; exact ho, hbi⟩
              case measure => simp [intOf]; omega
            · rw [if_neg he] at hx
              have HX := Lib.hid hx
              have hne : ((j : Int) != (k : Int)) = true := by simp; omega
              clear hx he
              go_wp2_with (refine wpList_pushI rfl (.tmp 27) (.tmp 29) rfl _ _ _ (cnxUp k j) rfl ho _ rfl (by omega) hsi ?_; intro v2 w2 ho2 hb2 hc2 hat2)
              go_roundw
              case rel => exact ⟨j + 1, by omega, by go_num, by rw [HX.out]; exact ho2, hbi.trans hb2⟩
              case measure => simp [intOf]; omega
          · obtain rfl : j = N := by omega
            have st := hst.move hbi
            have q0 := st.c0
            have q1 := st.c1
            have q2 := st.c2
            have f1 := st.blk1
            go_wp2_with fail
            refine (l14More _ _ _ _ (cliqueUp j k) ((k : Int) % 2) (k : Int) (cnx j k) wo _ (w.heap.size + 2) hsz hst.own hbi ho (cliqueUp_small (by omega))).mono ?_; rintro e w2 ⟨t0, t1, t2, rfl, ho2, hb2⟩
            obtain ⟨C0, d0, C1, d1, C2, d2, rfl, rfl, rfl⟩ := ho2.form
            have st2 := st.store hb2 ho2
            obtain ⟨bz, bg, bw, bs⟩ := st.call hb2
            have Q0 := bg.c0
            have Q1 := bg.c1
            have Q2 := bg.c2
            have F0 := bg.hot 0
            have F1 := bg.hot 1
            have F2 := bg.hot 2
            go_wp2
            exact ⟨⟨k + 1, _, _, _, by omega, rfl, by rw [cliqueUp_succ]; exact st2⟩, by simp [intOf]; omega⟩
      · obtain rfl : k = N := by omega
        have q0 := hst.c0
        have q1 := hst.c1
        have q2 := hst.c2
        have z0 := hst.z0
        have z1 := hst.z1
        have z2 := hst.z2
        have F0 := hst.hotZ 0
        have F1 := hst.hotZ 1
        have F2 := hst.hotZ 2
        obtain ⟨fo, fb, fx⟩ := hst.fin
        have R0 := fx.c0
        have R1 := fx.c1
        have R2 := fx.c2
        have HF := Lib.hid fo
        clear fo fx
        go_wp2
        refine bodyPost_ret (v := .tuple #[.agg #[.slice A0 (cliqueUp k k).1.length c0, .slice A1 (cliqueUp k k).2.1.length c1, .slice A2 (cliqueUp k k).2.2.length c2], .bool true]) (by simp [results, Try.results15, go_sem, R0, R1, R2]) rfl ⟨_, _, _, by rw [hE.out], ?_, fb.mono hB⟩
        rw [cliqueP_yes hE.out]
        exact HF.out.more (by omega)
  · replace h1 : okClique n = false := by simpa using h1
    have hE := Lib.hid h1
    have h2 : inR n 2 17 = false := h1
    clear h1
    go_enter Try.func15, Try.ntmps15
    go_wp2_with (go_at_call 68; refine (l1In _ _ _ _).mono ?_; rintro e w' ⟨rfl, q, rfl⟩)
    obtain ⟨fb, fx⟩ := (S0.move (below_drewN (Below.refl _ _) q)).fin0
    have R0 := fx.c0
    have R1 := fx.c1
    have R2 := fx.c2
    refine bodyPost_ret (v := .tuple #[.agg #[.slice none 0 0, .slice none 0 0, .slice none 0 0], .bool false]) (by simp [results, Try.results15, go_sem, R0, R1, R2]) rfl ⟨_, _, _, by rw [hE.out], by rw [cliqueP_no hE.out]; exact OPar.nil _ _, fb.mono hB⟩
end Go.Proofs.Ytlepekglmofelaa
