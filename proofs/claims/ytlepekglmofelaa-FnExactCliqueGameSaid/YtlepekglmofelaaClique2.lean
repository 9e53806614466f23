/- CliqueGame, impl. -/
import Derived.Test.YtlepekglmofelaaClique
import Derived.Deep.RegionHeld3
namespace Go.Proofs.Ytlepekglmofelaa
open Go.RowKit

theorem RI.one {w : World} {b : Nat} {x : Int} (h : w.cell? ⟨b, 0, none⟩ = some (.int .i64 x)) : RI w (some ⟨b, 0, none⟩) 1 1 [x] :=
  ⟨rfl, ⟨by omega, by omega⟩, fun i hi => ⟨b, 0, rfl, by
    obtain rfl : i = 0 := by omega
    simpa [gi] using h⟩⟩

set_option maxRecDepth 100000 in
set_option maxHeartbeats 1600000 in
theorem implClique (n : Int) (w : World) (B : Nat) (hB : B ≤ w.heap.size) :
    Calls Try.prog 16 #[.int .i64 n] w fun e w' => ∃ s0 s1 s2, e = .returned (.tuple #[.agg #[s0, s1, s2], .bool (okClique n)]) ∧ OPar w' B s0 s1 s2 (cliqueP n) ∧ Below B w w' := by
  have S0 := GSt.start w
  by_cases h1 : okClique n = true
  · have h1' := of_decide_eq_true h1
    obtain ⟨N, rfl⟩ : ∃ N : Nat, n = (N : Int) := ⟨n.toNat, by omega⟩
    have hE := Lib.hid h1
    have hn1 : (2 : Int) ≤ (N : Int) := h1'.1
    have hn2 : (N : Int) ≤ 17 := h1'.2
    clear h1 h1'
    go_enter Try.func16, Try.ntmps16
    go_wp2
    go_loopw [15] (fun i wr => ∃ (k : Nat) (s0 s1 s2 : Value), k ≤ N ∧ i = .int .i64 k ∧ GSt w wr s0 s1 s2 (cliqueUp N k)) (fun i _ => N - (intOf i).toNat)
    case atStart => exact ⟨0, _, _, _, Nat.zero_le _, rfl, S0⟩
    case round =>
      obtain ⟨k, s0, s1, s2, hk, rfl, hst⟩ := hrel
      obtain ⟨A0, c0, A1, c1, A2, c2, rfl, rfl, rfl⟩ := hst.own.form
      have hsz := hst.size
      by_cases hlt : k < N
      · have hki : (k : Int) < (N : Int) := by omega
        have q0 := hst.c0
        have q1 := hst.c1
        have q2 := hst.c2
        have f1 := hst.blk1
        go_wp2_with fail
        have hA0 : ∀ o, ((wr.drew).alloc o).cell? ⟨w.heap.size + 1, 0, none⟩ = some (.slice A0 (cliqueUp N k).1.length c0) := fun o => keepA (keepD q0)
        have hA1 : ∀ o, ((wr.drew).alloc o).cell? ⟨w.heap.size + 1, 1, none⟩ = some (.slice A1 (cliqueUp N k).2.1.length c1) := fun o => keepA (keepD q1)
        have hA2 : ∀ o, ((wr.drew).alloc o).cell? ⟨w.heap.size + 1, 2, none⟩ = some (.slice A2 (cliqueUp N k).2.2.length c2) := fun o => keepA (keepD q2)
        go_region_with (first
            | (go_at_call 72
               refine (AllOf _ _ _ (Nat.le_refl _) (by omega) (by omega)).mono ?_
               rintro e wa ⟨va, rfl, hoa, hba⟩
               rw [Int.toNat_natCast] at hoa
               obtain ⟨Aa, ca, rfl⟩ := hoa.form
               have hra : Below wr.heap.size wr wa := below_then hba (by first | omega | (simp; done) | (simp; omega)) (by repeat (first | with_reducible assumption | with_reducible exact Below.refl _ _ | with_reducible refine below_drewN ?_ _ | with_reducible refine Below.drew ?_ | with_reducible refine below_alloc (Nat.le_refl _) ?_))
               have sta := hst.move hra
               have qa0 := sta.c0
               have qa1 := sta.c1
               have qa2 := sta.c2
               have fa1 := sta.blk1
               have hB0 : ∀ o, (wa.alloc o).cell? ⟨w.heap.size + 1, 0, none⟩ = some (.slice A0 (cliqueUp N k).1.length c0) := fun o => keepA qa0
               have hB1 : ∀ o, (wa.alloc o).cell? ⟨w.heap.size + 1, 1, none⟩ = some (.slice A1 (cliqueUp N k).2.1.length c1) := fun o => keepA qa1
               have hB2 : ∀ o, (wa.alloc o).cell? ⟨w.heap.size + 1, 2, none⟩ = some (.slice A2 (cliqueUp N k).2.2.length c2) := fun o => keepA qa2)
            | (go_at_call 71
               refine (lessOf _ _ _ _ _ _ _ [(k : Int)] _ _ (Nat.le_refl _) (by exact (hoa.below (by repeat (first | with_reducible assumption | with_reducible exact Below.refl _ _ | with_reducible refine below_drewN ?_ _ | with_reducible refine Below.drew ?_ | with_reducible refine below_alloc (Nat.le_refl _) ?_))).reads) (RI.one (by first | (simp [go_sem]; done) | exact (hba.cell (by simp)).trans (by simp [go_sem]))) (rises_one _) (by rw [allL_len]; omega) (by omega)).mono ?_
               rintro e wb ⟨vb, rfl, hob, hbb⟩
               rw [cnx_less] at hob
               have hrb : Below wr.heap.size wr wb := below_then hbb (by have := hra.size; first | omega | (simp; done) | (simp; omega)) (by repeat (first | with_reducible exact hra | with_reducible refine below_drewN ?_ _ | with_reducible refine Below.drew ?_ | with_reducible refine below_alloc (Nat.le_refl _) ?_))
               have stb := hst.move hrb
               have qb0 := stb.c0
               have qb1 := stb.c1
               have qb2 := stb.c2
               replace hob := hob.more (lo' := wr.heap.size) (by have := hra.size; first | omega | (simp; done) | (simp; omega)))
            | (go_at_call 70
               refine (withVertex _ _ _ _ (cliqueUp N k) ((k : Int) % 2) (k : Int) (cnx N k) wr _ (w.heap.size + 2) hsz hst.own (by exact hrb) (by exact hob) (cliqueUp_small (by omega))).mono ?_
               rintro e w2 ⟨t0, t1, t2, rfl, ho2, hb2⟩
               obtain ⟨C0, d0, C1, d1, C2, d2, rfl, rfl, rfl⟩ := ho2.form
               have hb3 := (hrb.mono hsz).trans hb2
               have st2 := hst.store hb3 ho2
               obtain ⟨bz, bg, bw, bs⟩ := hst.call hb3
               have Q0 := bg.c0
               have Q1 := bg.c1
               have Q2 := bg.c2
               have F0 := bg.hot 0
               have F1 := bg.hot 1
               have F2 := bg.hot 2))
        all_goals
          go_wp2
          exact ⟨⟨k + 1, _, _, _, by omega, by go_num, by rw [cliqueUp_succ]; exact st2⟩, by simp [intOf]; omega⟩
      · obtain rfl : k = N := by omega
        have q0 := hst.c0
        have q1 := hst.c1
        have q2 := hst.c2
        have z0 := hst.z0
        have z1 := hst.z1
        have z2 := hst.z2
        have F0 := hst.hotZ 0
        have F1 := hst.hotZ 1
        have F2 := hst.hotZ 2
        obtain ⟨fo, fb, fx⟩ := hst.fin
        have R0 := fx.c0
        have R1 := fx.c1
        have R2 := fx.c2
        have HF := Lib.hid fo
        clear fo fx
        go_wp2
        refine bodyPost_ret (v := .tuple #[.agg #[.slice A0 (cliqueUp k k).1.length c0, .slice A1 (cliqueUp k k).2.1.length c1, .slice A2 (cliqueUp k k).2.2.length c2], .bool true]) (by simp [results, Try.results16, go_sem, R0, R1, R2]) rfl ⟨_, _, _, by rw [hE.out], ?_, fb.mono hB⟩
        rw [cliqueP_yes hE.out]
        exact HF.out.more (by omega)
  · replace h1 : okClique n = false := by simpa using h1
    have hE := Lib.hid h1
    have h2 := of_decide_eq_false h1
    clear h1
    have fx := (Box.new w 27 #[.slice none 0 0, .slice none 0 0, .slice none 0 0]).set3 (.slice none 0 0) (.slice none 0 0) (.slice none 0 0)
    have R0 := fx.c0
    have R1 := fx.c1
    have R2 := fx.c2
    by_cases h3 : n < 2
    · clear h2
      go_enter Try.func16, Try.ntmps16
      go_wp2
      refine bodyPost_ret (v := .tuple #[.agg #[.slice none 0 0, .slice none 0 0, .slice none 0 0], .bool false]) (by simp [results, Try.results16, go_sem, R0, R1, R2]) rfl ⟨_, _, _, by rw [hE.out], by rw [cliqueP_no hE.out]; exact OPar.nil _ _, below_alloc hB (Below.refl _ _)⟩
    · have h4 : 2 ≤ n := by omega
      have h5 : 17 < n := by omega
      clear h2 h3
      go_enter Try.func16, Try.ntmps16
      go_wp2
      refine bodyPost_ret (v := .tuple #[.agg #[.slice none 0 0, .slice none 0 0, .slice none 0 0], .bool false]) (by simp [results, Try.results16, go_sem, R0, R1, R2]) rfl ⟨_, _, _, by rw [hE.out], by rw [cliqueP_no hE.out]; exact OPar.nil _ _, below_alloc hB (Below.refl _ _)⟩
end Go.Proofs.Ytlepekglmofelaa
