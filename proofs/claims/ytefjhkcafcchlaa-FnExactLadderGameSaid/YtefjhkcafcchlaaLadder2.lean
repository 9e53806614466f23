/- LadderGame, impl. -/
import Derived.Test.YtefjhkcafcchlaaLadder
import Derived.StillTailTactics
namespace Go.Proofs.Ytefjhkcafcchlaa
open Go.RowKit

set_option maxRecDepth 100000 in
set_option maxHeartbeats 1600000 in
theorem implLadder (n : Int) (w : World) (B : Nat) (hB : B ≤ w.heap.size) :
    Calls Try.prog 46 #[.int .i64 n] w fun e w' => ∃ s0 s1 s2, e = .returned (.tuple #[.agg #[s0, s1, s2], .bool (okLad n)]) ∧ OPar w' B s0 s1 s2 (ladP n) ∧ Below B w w' := by
  have S0 := GSt.start w
  by_cases h1 : okLad n = true
  · have h1' := of_decide_eq_true h1
    obtain ⟨N, rfl⟩ := Int.eq_ofNat_of_zero_le (show 0 ≤ n by omega)
    have hE := Lib.hid h1
    have hn1 : (1 : Int) ≤ (N : Int) := h1'.1
    have hn2 : (N : Int) ≤ 128 := h1'.2
    clear h1 h1'
    go_enter Try.func46, Try.ntmps46
    go_wp2
    go_loopw [17] (fun i wr => ∃ (k : Nat) (s0 s1 s2 : Value), k ≤ 2 * N ∧ i = .int .i64 k ∧ GSt w wr s0 s1 s2 (ladUp (2 * (N : Int)) k)) (fun i _ => 2 * N - (intOf i).toNat)
    case atStart => exact ⟨0, _, _, _, Nat.zero_le _, rfl, S0⟩
    case round =>
      obtain ⟨k, s0, s1, s2, hk, rfl, hst⟩ := hrel
      obtain ⟨A0, c0, A1, c1, A2, c2, rfl, rfl, rfl⟩ := hst.own.form
      have hsz := hst.size
      by_cases hlt : k < 2 * N
      · have hki : (k : Int) < 2 * (N : Int) := by omega
        have hk0 : (0 : Int) ≤ (k : Int) := by omega
        have q0 := hst.c0
        have q1 := hst.c1
        have q2 := hst.c2
        have f1 := hst.blk1
        have hsm := ladUp_small (m := 2 * (N : Int)) (k := k) (by omega)
        have hnz : ¬ 2 * (N : Int) = 0 := by omega
        have e1 : IntKind.i64.wrap ((k : Int) + 1) = (k : Int) + 1 := IntWalk.i64_in _ (by omega)
        have e2 : IntKind.i64.wrap ((k : Int) + 2) = (k : Int) + 2 := IntWalk.i64_in _ (by omega)
        have e3 : IntKind.i64.wrap (2 * (N : Int)) = 2 * (N : Int) := IntWalk.i64_in _ (by omega)
        go_wp2_with fail
        go_still_tail 10, (by kernel_rfl)
        change wpList _ _ _ _ _ wr.drew
        have hd1 : Below wr.heap.size wr wr.drew := Below.drew (Below.refl _ _)
        have hl2 := OI.lit2 (E := 2) (w := wr.drew) (B := wr.heap.size) (x := ((k : Int) + 1) % (2 * (N : Int))) (y := ((k : Int) + 2) % (2 * (N : Int))) (Nat.le_refl _)
        have hb1 : Below wr.heap.size wr (wr.drew.alloc (.cells #[.int .i64 (((k : Int) + 1) % (2 * (N : Int))), .int .i64 (((k : Int) + 2) % (2 * (N : Int)))] 2)) := below_alloc (Nat.le_refl _) hd1
        have hg : wr.heap.size ≤ wr.drew.heap.size := Nat.le_refl _
        have NX := Lib.hid (ladNx_comp (2 * (N : Int)) k)
        have SL := Lib.hid (sortL_len [((k : Int) + 1) % (2 * (N : Int)), ((k : Int) + 2) % (2 * (N : Int))])
        go_wp2_with fail
        refine (slicesSort _ hl2 (by simp)).mono ?_; rintro e wa ⟨rfl, hoa, hca⟩
        have hra0 : Below wr.heap.size wr wa := hb1.trans (hca.below (Below.size hb1) (fun x hx => by have h3 : x = wr.drew.heap.size := hx; omega))
        have hoa2 : OI 2 wa wr.heap.size (.slice (some ⟨wr.drew.heap.size, 0, none⟩) (sortL [((k : Int) + 1) % (2 * (N : Int)), ((k : Int) + 2) % (2 * (N : Int))]).length 2) (sortL [((k : Int) + 1) % (2 * (N : Int)), ((k : Int) + 2) % (2 * (N : Int))]) := by rw [SL.out]; exact hoa
        have sta := hst.move hra0
        have qa0 := sta.c0
        have qa1 := sta.c1
        have qa2 := sta.c2
        have fa1 := sta.blk1
        have slen : (sortL [((k : Int) + 1) % (2 * (N : Int)), ((k : Int) + 2) % (2 * (N : Int))]).length = 2 := SL.out
        clear hb1 hca hoa hl2 q0 q1 q2
        generalize sortL [((k : Int) + 1) % (2 * (N : Int)), ((k : Int) + 2) % (2 * (N : Int))] = SX at *
        rw [slen] at hoa2
        have hoa3 : OI 2 wa wr.heap.size (.slice (some ⟨wr.drew.heap.size, 0, none⟩) SX.length 2) SX := by rw [slen]; exact hoa2
        have SE := Lib.hid slen
        clear hoa2 slen
        go_wp2_with fail
        go_region_with (first
            | (go_at_call 113
               refine ((show ∀ w', OI 2 w' wr.heap.size (.slice (some ⟨wr.drew.heap.size, 0, none⟩) SX.length 2) SX → Calls Try.prog 113 #[.slice (some ⟨wr.drew.heap.size, 0, none⟩) 2 2] w' fun e w1 => e = .returned (.slice (some ⟨wr.drew.heap.size, 0, none⟩) (compL SX).length 2) ∧ OI 2 w1 wr.heap.size (.slice (some ⟨wr.drew.heap.size, 0, none⟩) (compL SX).length 2) (compL SX) ∧ Chg (fun b => b = wr.drew.heap.size) w' w1 from fun w' h' => by have h2 := slicesCompact w' h'; rwa [SE.out] at h2) _ (by exact hoa3)).mono ?_
               rintro e wb ⟨rfl, hob, hcb⟩
               rw [NX.out] at hob
               rw [NX.out]
               have hrb : Below wr.heap.size wr wb := Below.trans (by first | exact hra0 | exact Below.drew hra0) (hcb.below (by have := hra0.size; first | exact this | (simp; omega)) (fun x hx => by have h3 : x = wr.drew.heap.size := hx; omega))
               have stb := hst.move hrb
               have qb0 := stb.c0
               have qb1 := stb.c1
               have qb2 := stb.c2
               have fb1 := stb.blk1)
            | (go_at_call 108
               refine (withVertex _ _ _ _ (ladUp (2 * (N : Int)) k) ((k : Int) % 2) ((k : Int) % 4) (ladNx (2 * (N : Int)) k) wr _ (w.heap.size + 2) hsz hst.own (by exact hrb) (by exact hob) hsm).mono ?_
               rintro e w2 ⟨t0, t1, t2, rfl, ho2, hb2⟩
               obtain ⟨C0, d0, C1, d1, C2, d2, rfl, rfl, rfl⟩ := ho2.form
               have hb3 := (hrb.mono hsz).trans hb2
               have st2 := hst.store hb3 ho2
               obtain ⟨bz, bg, bw, bs⟩ := hst.call hb3
               have Q0 := bg.c0
               have Q1 := bg.c1
               have Q2 := bg.c2
               have F0 := bg.hot 0
               have F1 := bg.hot 1
               have F2 := bg.hot 2))
        all_goals
          go_wp2
          exact ⟨⟨k + 1, _, _, _, by omega, by go_num, st2⟩, by simp [intOf]; omega⟩
      · obtain rfl : k = 2 * N := by omega
        have q0 := hst.c0
        have q1 := hst.c1
        have q2 := hst.c2
        have z0 := hst.z0
        have z1 := hst.z1
        have z2 := hst.z2
        have F0 := hst.hotZ 0
        have F1 := hst.hotZ 1
        have F2 := hst.hotZ 2
        obtain ⟨fo, fb, fx⟩ := hst.fin
        have R0 := fx.c0
        have R1 := fx.c1
        have R2 := fx.c2
        have HF := Lib.hid fo
        clear fo fx
        go_wp2
        refine bodyPost_ret (v := .tuple #[.agg #[.slice A0 (ladUp (2 * (N : Int)) (2 * N)).1.length c0, .slice A1 (ladUp (2 * (N : Int)) (2 * N)).2.1.length c1, .slice A2 (ladUp (2 * (N : Int)) (2 * N)).2.2.length c2], .bool true]) (by simp [results, Try.results46, go_sem, R0, R1, R2]) rfl ⟨_, _, _, by rw [hE.out], ?_, fb.mono hB⟩
        rw [ladP_yes hE.out]
        exact HF.out.more (by omega)
  · replace h1 : okLad n = false := by simpa using h1
    have hE := Lib.hid h1
    have h2 := of_decide_eq_false h1
    clear h1
    have fx := (Box.new w 44 #[.slice none 0 0, .slice none 0 0, .slice none 0 0]).set3 (.slice none 0 0) (.slice none 0 0) (.slice none 0 0)
    have R0 := fx.c0
    have R1 := fx.c1
    have R2 := fx.c2
    by_cases h3 : n < 1
    · clear h2
      go_enter Try.func46, Try.ntmps46
      go_wp2
      refine bodyPost_ret (v := .tuple #[.agg #[.slice none 0 0, .slice none 0 0, .slice none 0 0], .bool false]) (by simp [results, Try.results46, go_sem, R0, R1, R2]) rfl ⟨_, _, _, by rw [hE.out], by rw [ladP_no hE.out]; exact OPar.nil _ _, below_alloc hB (Below.refl _ _)⟩
    · have h4 : 1 ≤ n := by omega
      have h5 : 128 < n := by omega
      clear h2 h3
      go_enter Try.func46, Try.ntmps46
      go_wp2
      refine bodyPost_ret (v := .tuple #[.agg #[.slice none 0 0, .slice none 0 0, .slice none 0 0], .bool false]) (by simp [results, Try.results46, go_sem, R0, R1, R2]) rfl ⟨_, _, _, by rw [hE.out], by rw [ladP_no hE.out]; exact OPar.nil _ _, below_alloc hB (Below.refl _ _)⟩
end Go.Proofs.Ytefjhkcafcchlaa
