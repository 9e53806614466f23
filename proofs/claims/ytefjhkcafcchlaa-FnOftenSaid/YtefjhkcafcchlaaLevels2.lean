/- Levels: spec.l15Levels. Levels: impl.staysLevels. -/
import Derived.Test.YtefjhkcafcchlaaLevels
namespace Go.Proofs.Ytefjhkcafcchlaa
open Go.RowKit

end Go.Proofs.Ytefjhkcafcchlaa
namespace Go.Proofs.Ytefjhkcafcchlaa
open Go.RowKit

set_option maxRecDepth 100000 in
set_option maxHeartbeats 1600000 in
theorem staysFn (A0 A1 D X Y : Option Addr) (n0 c0 n1 c1 d dx dy : Nat) (o : List Int) (n : List (List Int)) (who : Int) (v : Nat) (ms x sf : List Bool) (ba bw bl bs : Nat) (w : World) (B : Nat) (hB : B ≤ w.heap.size) (hba : Box w ba 30 #[.slice A0 n0 c0, .slice A1 n1 c1]) (hbw : w.cell? ⟨bw, 0, none⟩ = some (.int .i64 who))
    (hbl : w.cell? ⟨bl, 0, none⟩ = some (.slice X n0 dx)) (hbs : w.cell? ⟨bs, 0, none⟩ = some (.slice Y n0 dy))
    (ha : RI w A0 n0 c0 o) (hb : RII w A1 n1 c1 n) (hm : RB w D n0 d ms) (hx : RB w X n0 dx x) (hy : RB w Y n0 dy sf) (hf : fineAr o n) (hv : v < n0) :
    Calls Try.prog 167 #[.int .i64 (v : Int), .slice D n0 d, .pointer (some ⟨ba, 0, none⟩), .pointer (some ⟨bw, 0, none⟩), .pointer (some ⟨bl, 0, none⟩), .pointer (some ⟨bs, 0, none⟩)] w fun e w' => e = .returned (.bool (keptL o n who x sf ms v)) ∧ Below B w w' := by
  have q0 := hba.d0; have q1 := hba.d1
  have hcall := moves A0 A1 X n0 c0 n1 c1 n0 dx o n who v x w _ (Nat.le_refl _) ha hb hx hf hv rfl
  have hc2 := fun w1 (hb1 : Below w.heap.size w w1) => moves A0 A1 D n0 c0 n1 c1 n0 d o n who v ms w1 _ (Nat.le_refl _) (ha.keep (keeps_below hb1)) (hb.keep (keeps_below hb1)) (hm.keep (keeps_below hb1)) hf hv rfl
  have HC2 := Lib.hid hc2
  clear hc2
  obtain ⟨by', oy, rfl, hcy⟩ := hy.at_ hv
  have hdy := hy.cap; have hdt := hy.top
  cases h1 : intoB o n who x v with
  | true =>
    rw [h1] at hcall
    have E := Lib.hid (keptL_1 (sf := sf) (r := ms) h1)
    clear h1
    go_enter Try.func167, Try.ntmps167
    go_wp2_with fail
    refine hcall.mono ?_; rintro e w1 ⟨rfl, hb1⟩
    go_wp2
    go_ret
    exact ⟨ret_b E.out.symm, hb1.mono hB⟩
  | false =>
    rw [h1] at hcall
    cases h2 : gb sf v with
    | false =>
      rw [h2] at hcy
      have E := Lib.hid (keptL_2 (r := ms) h1 h2)
      clear h1 h2
      go_enter Try.func167, Try.ntmps167
      go_wp2_with fail
      refine hcall.mono ?_; rintro e w1 ⟨rfl, hb1⟩
      have k := keeps_below hb1
      have r1 := k _ _ hbs; have r2 := k _ _ hcy
      clear k
      go_wp2
      go_ret
      exact ⟨ret_b E.out.symm, hb1.mono hB⟩
    | true =>
      rw [h2] at hcy
      have E := Lib.hid (keptL_3 (r := ms) h1 h2 rfl)
      clear h1 h2
      go_enter Try.func167, Try.ntmps167
      go_wp2_with fail
      refine hcall.mono ?_; rintro e w1 ⟨rfl, hb1⟩
      have k := keeps_below hb1
      have r1 := k _ _ hbs; have r2 := k _ _ hcy; have r3 := k _ _ hbw
      have r4 := (hba.below hb1 hba.lt).d0; have r5 := (hba.below hb1 hba.lt).d1
      clear k
      go_wp2_with fail
      refine (HC2.out _ hb1).mono ?_; rintro e w2 ⟨rfl, hb2⟩
      go_wp2
      go_ret
      exact ⟨ret_b E.out.symm, (below_then hb2 hb1.size hb1).mono hB⟩
theorem staysFn_enter (args : Array Value) (w : World) : (callFunc 167 args).run Try.prog w = .ok (.enter 167 args) w := by kernel_rfl

set_option maxRecDepth 100000 in
set_option maxHeartbeats 3200000 in
theorem staysLevels (A0 A1 C : Option Addr) (n0 c0 n1 c1 k d : Nat) (o : List Int) (n : List (List Int)) (who : Int) (s : List Int) (w : World) (B : Nat) (hB : B ≤ w.heap.size) (ha : RI w A0 n0 c0 o) (hb : RII w A1 n1 c1 n) (hs : RI w C k d s) (hf : fineAr o n) (hst : setB s o.length = true) :
    Calls Try.prog 100 #[.agg #[.slice A0 n0 c0, .slice A1 n1 c1], .int .i64 who, .slice C k d] w fun e w' => ∃ v, e = .returned v ∧ OI 2 w' B v (levelsL o n who s) ∧ Below B w w' := by
  have hmf : ∀ (fn : Fn) (first cap : Array Value) (w : World), (Instr.makeFunc fn first cap).run Try.prog w = .ok (.func fn first cap) w := fun _ _ _ _ => rfl
  have HL := Lib.hid ha.len
  have hm0 : 0 < n0 := by have := hf.1; rw [HL.out] at this; omega
  have hm1 : n0 ≤ 256 := by have := hf.2.1; rw [HL.out] at this; omega
  have hset : setB s (n0 : Int) = true := by rw [← HL.out]; exact hst
  have HSET := Lib.hid hset
  have HS := Lib.hid (show levelsL o n who s = lvlE o n who (mkM n0 s) n0 by unfold levelsL; rw [HL.out])
  have HF := Lib.hid hf
  have hba : Below w.heap.size w ((w.alloc (.cells #[.slice A0 n0 c0, .slice A1 n1 c1] 30)).alloc (.cells #[.int .i64 who] 2)) := below_alloc (Nat.le_refl _) (below_alloc (Nat.le_refl _) (Below.refl _ _))
  have bx := (Box.new w 30 #[.slice A0 n0 c0, .slice A1 n1 c1]).alloc (.cells #[.int .i64 who] 2)
  have bw : Box ((w.alloc (.cells #[.slice A0 n0 c0, .slice A1 n1 c1] 30)).alloc (.cells #[.int .i64 who] 2)) (w.heap.size + 1) 2 #[.int .i64 who] := Box.new' (by simp)
  have hz0 : w.heap.size + 2 = ((w.alloc (.cells #[.slice A0 n0 c0, .slice A1 n1 c1] 30)).alloc (.cells #[.int .i64 who] 2)).heap.size := by simp
  have q0 := bx.d0; have q1 := bx.d1
  clear hf hst hset
  go_enter Try.func100, Try.ntmps100
  go_wp2_with fail
  generalize ((w.alloc (.cells #[.slice A0 n0 c0, .slice A1 n1 c1] 30)).alloc (.cells #[.int .i64 who] 2)) = W at *
  replace hz0 : w.heap.size + 2 ≤ W.heap.size := by omega
  refine (noPlan _ _ _ _ _ _ _ _ (Nat.le_refl _) (by omega)).mono ?_; rintro e w1 ⟨v1, rfl, ho, hb1⟩
  obtain ⟨g8, c8, rfl⟩ := ho.form2 (by rw [negL_len]; omega)
  rw [negL_len] at ho ⊢
  have hg8 := ho.lt g8 rfl
  replace bx := bx.below hb1 bx.lt
  replace bw := bw.below hb1 bw.lt
  have hw := below_then hb1 hba.size hba
  clear q0 q1 hba
  have q0 := bx.d0; have q1 := bx.d1
  go_wp2_with fail
  clear q0 q1
  refine (markOf _ _ _ _ _ _ _ _ _ s _ _ (Nat.le_refl _) (hs.keep (keeps_below hw)) HSET.out (by omega)).mono ?_; rintro e w2 ⟨v2, rfl, hsf, hb2⟩
  obtain ⟨gS, cS, rfl⟩ := hsf.form2 (by rw [mkM_len]; omega)
  rw [mkM_len] at hsf ⊢
  have hgS := hsf.lt gS rfl
  replace ho := ho.below hb2
  replace bx := bx.below hb2 bx.lt
  replace bw := bw.below hb2 bw.lt
  replace hw := below_then hb2 hw.size hw
  clear hb1 hb2
  go_wp2 --CUT
  have hbS : Below w2.heap.size w2 (w2.alloc (.cells #[.slice (some ⟨gS, 0, none⟩) n0 cS] 98)) := below_alloc (Nat.le_refl _) (Below.refl _ _)
  have bs := Box.new w2 98 #[.slice (some ⟨gS, 0, none⟩) n0 cS]
  replace ho := (ho.below hbS).more (lo' := w.heap.size + 2) (by omega)
  replace hsf := (hsf.below hbS).more (lo' := w.heap.size + 2) (by omega)
  replace bx := bx.below hbS bx.lt
  replace bw := bw.below hbS bw.lt
  replace hw := below_then hbS hw.size hw
  clear hbS
  obtain ⟨hg8a, hg8b⟩ := hg8
  obtain ⟨hgSa, hgSb⟩ := hgS
  generalize (w2.alloc (.cells #[.slice (some ⟨gS, 0, none⟩) n0 cS] 98)) = W2 at *
  generalize w2.heap.size = bS at *
  go_loopg [9] (n0 + 1) (fun gk lv wr => ∃ (t : Nat) (L : List Int), lv = .int .i64 t ∧ L = lvls o n who (mkM n0 s) n0 t ∧ t + negs L ≤ n0 ∧ negs L + 1 ≤ gk ∧ OI 2 wr (w.heap.size + 2) (.slice (some ⟨g8, 0, none⟩) n0 c8) (L) ∧ OB 4 wr (w.heap.size + 2) (.slice (some ⟨gS, 0, none⟩) n0 cS) (mkM n0 s) ∧ Box wr w.heap.size 30 #[.slice A0 n0 c0, .slice A1 n1 c1] ∧ Box wr (w.heap.size + 1) 2 #[.int .i64 who] ∧ Box wr bS 98 #[.slice (some ⟨gS, 0, none⟩) n0 cS] ∧ Below w.heap.size w wr)
  case atStart => exact ⟨0, negL n0, rfl, rfl, by have := negs_neg n0; omega, by have := negs_neg n0; omega, ho, hsf, bx, bw, bs, hw⟩
  case round =>
    clear ho hsf bx bw bs hw
    obtain ⟨t, L, rfl, hLt, hneg, hgk, ho, hsf, bx, bw, bs, hw⟩ := hrel
    have hLl : L.length = n0 := by rw [hLt, lvls_len]
    have ht : t ≤ 256 := by omega
    have HLT := Lib.hid hLt; have HNEG := Lib.hid hneg; have HGK := Lib.hid hgk; have HLL := Lib.hid hLl
    clear hLt hneg hgk hLl
    obtain ⟨wl, rfl⟩ : ∃ wl : World, wl = wr := ⟨_, rfl⟩
    have hbSl := bs.lt
    go_wp2_with (first
      | (refine wpList_makeB rfl (.tmp 24) rfl _ n0 rfl (by omega) ?_
         intro w3 hx hb3
         replace ho := ho.below hb3
         replace hsf := hsf.below hb3
         replace bx := bx.below hb3 bx.lt
         replace bw := bw.below hb3 bw.lt
         replace bs := bs.below hb3 bs.lt
         replace hw := below_then hb3 hw.size hw
         have hgl : wl.heap.size < w3.heap.size := (hx.lt _ rfl).2
         replace hx := hx.more (lo' := w.heap.size + 2) (by omega)
         clear hb3)
      | (refine wpList_makeB rfl (.tmp 27) rfl _ n0 rfl (by omega) ?_
         intro w4 hal hb4
         have hbL : Below w3.heap.size w3 (w3.alloc (.cells #[.slice (some ⟨wl.heap.size, 0, none⟩) n0 n0] 98)) := below_alloc (Nat.le_refl _) (Below.refl _ _)
         have bl := (Box.new w3 98 #[.slice (some ⟨wl.heap.size, 0, none⟩) n0 n0]).below hb4 (by simp)
         have hzz : (w3.alloc (.cells #[.slice (some ⟨wl.heap.size, 0, none⟩) n0 n0] 98)).heap.size = w3.heap.size + 1 := by simp
         have hbM := below_then hb4 hbL.size hbL
         rw [hzz] at hal
         try rw [hzz]
         clear hb4 hbL hzz
         replace ho := ho.below hbM
         replace hsf := hsf.below hbM
         replace hx := hx.below hbM
         replace bx := bx.below hbM bx.lt
         replace bw := bw.below hbM bw.lt
         replace bs := bs.below hbM bs.lt
         replace hw := below_then hbM hw.size hw
         replace hal := hal.more (lo' := w.heap.size + 2) (by omega)
         clear hbM))
    generalize wl.heap.size = gl' at *
    generalize w3.heap.size = bL at *
    go_loopw [31] (fun i wr => ∃ j : Nat, j ≤ n0 ∧ i = .int .i64 j ∧ OB 4 wr (w.heap.size + 2) (.slice (some ⟨gl', 0, none⟩) n0 n0) (fillB (fun q => decide (0 ≤ gi L q)) n0 j) ∧ OB 4 wr (w.heap.size + 2) (.slice (some ⟨(bL + 1), 0, none⟩) n0 n0) (fillB (fun _ => true) n0 j) ∧ Box wr bL 98 #[.slice (some ⟨gl', 0, none⟩) n0 n0] ∧ OI 2 wr (w.heap.size + 2) (.slice (some ⟨g8, 0, none⟩) n0 c8) (L) ∧ OB 4 wr (w.heap.size + 2) (.slice (some ⟨gS, 0, none⟩) n0 cS) (mkM n0 s) ∧ Box wr w.heap.size 30 #[.slice A0 n0 c0, .slice A1 n1 c1] ∧ Box wr (w.heap.size + 1) 2 #[.int .i64 who] ∧ Box wr bS 98 #[.slice (some ⟨gS, 0, none⟩) n0 cS] ∧ Below w.heap.size w wr) (fun i _ => n0 - (intOf i).toNat)
    case atStart => exact ⟨0, Nat.zero_le _, rfl, by rw [fillB_zero]; exact hx, by rw [fillB_zero]; exact hal, bl, ho, hsf, bx, bw, bs, hw⟩
    case round =>
      clear hx hal bl ho hsf bx bw bs hw
      obtain ⟨j, hj, rfl, hx, hal, bl, ho, hsf, bx, bw, bs, hw⟩ := hrel
      by_cases hlt : j < n0
      · have hcx := hx.atx (i := j) (by rw [fillB_len]; exact hlt)
        have hfx := hx.hot (i := j) (by rw [fillB_len])
        have hca := hal.atx (i := j) (by rw [fillB_len]; exact hlt)
        have hfa := hal.hot (i := j) (by rw [fillB_len])
        have hco := ho.cellAt (i := j) (by rw [HLL.out]; exact hlt)
        have q2 : wr.cell? ⟨bL, 0, none⟩ = some (.slice (some ⟨gl', 0, none⟩) n0 n0) := bl.cell 0
        have HX := Lib.hid (fillB_put (f := fun q => decide (0 ≤ gi L q)) hlt)
        have HA := Lib.hid (fillB_put (f := fun _ => true) hlt)
        have hji : (j : Int) < (n0 : Int) := by omega
        have hj0 : (0 : Int) ≤ (j : Int) := by omega
        go_wp2
        go_region
        go_wp2
        go_roundw
        case rel =>
          refine ⟨j + 1, by omega, by go_num, ?_, ?_, ?_, ?_, ?_, ?_, ?_, ?_, ?_⟩
          · rw [← HX.out]; exact (hx.set_ (by rw [fillB_len]) _).off (by show gl' ≠ bL + 1; omega) _
          · rw [← HA.out]; exact (hal.off (by show bL + 1 ≠ gl'; omega) _).set_ (by rw [fillB_len]) _
          · exact (bl.far (by show bL ≠ gl'; omega) _).far (by show bL ≠ bL + 1; omega) _
          · exact (ho.off (by show g8 ≠ gl'; omega) _).off (by show g8 ≠ bL + 1; omega) _
          · exact (hsf.off (by show gS ≠ gl'; omega) _).off (by show gS ≠ bL + 1; omega) _
          · exact (bx.far (by show w.heap.size ≠ gl'; omega) _).far (by show w.heap.size ≠ bL + 1; omega) _
          · exact (bw.far (by show w.heap.size + 1 ≠ gl'; omega) _).far (by show w.heap.size + 1 ≠ bL + 1; omega) _
          · exact (bs.far (by show bS ≠ gl'; omega) _).far (by show bS ≠ bL + 1; omega) _
          · repeat (first | with_reducible exact hw | with_reducible refine below_drewN ?_ _ | with_reducible refine Below.drew ?_ | refine below_set (p := ⟨bL + 1, j, none⟩) (by show w.heap.size ≤ bL + 1; omega) ?_ | refine below_set (p := ⟨gl', j, none⟩) (by show w.heap.size ≤ gl'; omega) ?_)
        case measure => simp [intOf]; omega
      · obtain rfl : j = n0 := by omega
        rw [fillB_true] at hal
        rw [lowM_fill HLL.out] at hx
        have q0 := bx.d0; have q1 := bx.d1
        go_wp2_with fail
        clear q0 q1
        have HGS := greatestSet (keptL o n who (lowM L) (mkM j s)) 167 #[.pointer (some ⟨w.heap.size, 0, none⟩), .pointer (some ⟨w.heap.size + 1, 0, none⟩), .pointer (some ⟨bL, 0, none⟩), .pointer (some ⟨bS, 0, none⟩)] A0 A1 (some ⟨bL + 1, 0, none⟩) j c0 n1 c1 j j (List.replicate j true) wr _ (Nat.le_refl _) hal.reads hm0 (by omega) staysFn_enter (fun w' A c r v hbw hr hv => staysFn A0 A1 A _ _ j c0 n1 c1 c j cS o n who v r (lowM L) (mkM j s) w.heap.size (w.heap.size + 1) bL bS w' _ (Nat.le_refl _) (bx.below hbw bx.lt) ((bw.below hbw bw.lt).cell 0) ((bl.below hbw bl.lt).cell 0) ((bs.below hbw bs.lt).cell 0) ((ha.keep (keeps_below hw)).keep (keeps_below hbw)) ((hb.keep (keeps_below hw)).keep (keeps_below hbw)) hr (hx.reads.keep (keeps_below hbw)) (hsf.reads.keep (keeps_below hbw)) HF.out hv)
        refine HGS.mono ?_
        clear HGS
        rintro e w5 ⟨v5, rfl, hr, hrl, hb5⟩
        have HGE := Lib.hid (show lvlSet o n who (mkM j s) j L = gfp (keptL o n who (lowM L) (mkM j s)) j (List.replicate j true) from rfl)
        generalize hG : gfp (keptL o n who (lowM L) (mkM j s)) j (List.replicate j true) = R at *
        clear hG
        obtain ⟨gR, cR, rfl⟩ := hr.form2 (by omega)
        rw [hrl] at hr ⊢
        have hgR : wr.heap.size ≤ gR := (hr.lt _ rfl).1
        have hbLw := bl.lt
        have HRL := Lib.hid hrl
        clear hrl
        replace ho := ho.below hb5
        replace hsf := hsf.below hb5
        replace hx := hx.below hb5
        replace bx := bx.below hb5 bx.lt
        replace bw := bw.below hb5 bw.lt
        replace bs := bs.below hb5 bs.lt
        replace bl := bl.below hb5 bl.lt
        replace hr := hr.more (lo' := w.heap.size + 2) (by omega)
        replace hw := below_then hb5 hw.size hw
        clear hal hb5
        go_wp2
        go_loopw [14, 52] (fun x i wr => ∃ (q : Nat) (fl : Bool), q ≤ j ∧ i = .int .i64 q ∧ x = .bool fl ∧ (fl = false → noNew R L q) ∧ (fl = true → negs (lvlUp R t L q) < negs L) ∧ OI 2 wr (w.heap.size + 2) (.slice (some ⟨g8, 0, none⟩) j c8) (lvlUp R t L q) ∧ OB 4 wr (w.heap.size + 2) (.slice (some ⟨gl', 0, none⟩) j j) (lowM L) ∧ OB 4 wr (w.heap.size + 2) (.slice (some ⟨gR, 0, none⟩) j cR) (R) ∧ Box wr bL 98 #[.slice (some ⟨gl', 0, none⟩) j j] ∧ OB 4 wr (w.heap.size + 2) (.slice (some ⟨gS, 0, none⟩) j cS) (mkM j s) ∧ Box wr w.heap.size 30 #[.slice A0 j c0, .slice A1 n1 c1] ∧ Box wr (w.heap.size + 1) 2 #[.int .i64 who] ∧ Box wr bS 98 #[.slice (some ⟨gS, 0, none⟩) j cS] ∧ Below w.heap.size w wr) (fun _ i _ => j - (intOf i).toNat)
        case atStart => exact ⟨0, false, Nat.zero_le _, rfl, rfl, fun _ q hq => absurd hq (by omega), by simp, ho, hx, hr, bl, hsf, bx, bw, bs, hw⟩
        case round =>
          clear hx hr bl ho hsf bx bw bs hw
          obtain ⟨q, fl, hq, rfl, rfl, h1, h2, ho, hx, hr, bl, hsf, bx, bw, bs, hw⟩ := hrel
          have H1 := Lib.hid h1; have H2 := Lib.hid h2
          clear h1 h2
          have HUL := Lib.hid (show (lvlUp R t L q).length = j by rw [lvlUp_len, HLL.out])
          by_cases hlt : q < j
          · have hc := hr.atx (i := q) (by rw [HRL.out]; exact hlt)
            have hcx := hx.atx (i := q) (by rw [lowM_len, HLL.out]; exact hlt)
            have hco := ho.cellAt (i := q) (by rw [HUL.out]; exact hlt)
            have hfo := ho.hot (i := q) (by rw [HUL.out])
            have q2 : wr.cell? ⟨bL, 0, none⟩ = some (.slice (some ⟨gl', 0, none⟩) j j) := bl.cell 0
            rw [lowM_at (by rw [HLL.out]; exact hlt)] at hcx
            cases hgb : gb R q with
            | false =>
              rw [hgb] at hc
              have HX := Lib.hid (lvlUp_off (l := (t : Int)) (L := L) (fun h => by have := h.1.symm.trans hgb; cases this))
              have HN := Lib.hid (show ¬ (gb R q = true ∧ gi L q < 0) from fun h => by have := h.1.symm.trans hgb; cases this)
              clear hgb
              go_wp2
              go_roundw
              case rel => exact ⟨q + 1, fl, by omega, by go_num, rfl, fun h => all_succ (H1.out h) HN.out, by rw [HX.out]; exact H2.out, by rw [HX.out]; exact ho, hx, hr, bl, hsf, bx, bw, bs, hw⟩
              case measure => simp [intOf]; omega
            | true =>
              rw [hgb] at hc
              by_cases hge : 0 ≤ gi L q
              · rw [decide_eq_true hge] at hcx
                have HX := Lib.hid (lvlUp_off (l := (t : Int)) (L := L) (show ¬ (gb R q = true ∧ gi L q < 0) from fun h => by omega))
                have HN := Lib.hid (show ¬ (gb R q = true ∧ gi L q < 0) from fun h => by omega)
                clear hgb hge
                go_wp2
                go_roundw
                case rel => exact ⟨q + 1, fl, by omega, by go_num, rfl, fun h => all_succ (H1.out h) HN.out, by rw [HX.out]; exact H2.out, by rw [HX.out]; exact ho, hx, hr, bl, hsf, bx, bw, bs, hw⟩
                case measure => simp [intOf]; omega
              · rw [decide_eq_false hge] at hcx
                have hlt2 : gi L q < 0 := by omega
                have HX := Lib.hid (lvlUp_hit (l := (t : Int)) hgb hlt2)
                have HD := Lib.hid (lvlUp_lt (r := R) (l := (t : Int)) (L := L) (k := q) (by omega) (by rw [HLL.out]; exact hlt) hgb hlt2)
                have HE2 := Lib.hid (lvlUp_le (r := R) (l := (t : Int)) (L := L) (by omega) (k := q) (by rw [HLL.out]; omega))
                clear hgb hge hlt2
                go_wp2
                go_roundw
                case rel =>
                  refine ⟨q + 1, true, by omega, by go_num, rfl, by simp, fun _ => by have := HD.out; have := HE2.out; omega, ?_, hx.off (by show gl' ≠ g8; omega) _, hr.off (by show gR ≠ g8; omega) _, bl.far (by show bL ≠ g8; omega) _, hsf.off (by show gS ≠ g8; omega) _, bx.far (by show w.heap.size ≠ g8; omega) _, bw.far (by show w.heap.size + 1 ≠ g8; omega) _, bs.far (by show bS ≠ g8; omega) _, below_set (by show w.heap.size ≤ g8; omega) hw⟩
                  rw [HX.out]; exact ho.set_ (by rw [HUL.out]) _
                case measure => simp [intOf]; omega
          · obtain rfl : q = j := by omega
            cases fl with
            | false =>
              have HZ2 := Lib.hid (lvlUp_none (l := (t : Int)) (H1.out rfl))
              have HIS := Lib.hid (show isLvl o n who (mkM q s) q L from ⟨t, HLT.out, by rw [HGE.out]; exact H1.out rfl⟩)
              go_wp2
              go_ret
              exact ⟨_, rfl, by rw [HS.out, ← HIS.out.is, ← HZ2.out]; exact ho.more (by omega), hw.mono hB⟩
            | true =>
              go_wp2
              go_roundg (negs (lvlUp R t L q) + 1)
              case rel => exact ⟨t + 1, lvlUp R t L q, by go_num, by rw [lvls, ← HLT.out, HGE.out], by have := H2.out (by simp); have := HNEG.out; omega, Nat.le_refl _, ho, hsf, bx, bw, bs, hw⟩
              case measure => have := H2.out (by simp); have := HGK.out; omega
end Go.Proofs.Ytefjhkcafcchlaa
