/- TextGame, impl and spec: contracts. -/
import Derived.Test.YtkhkdnmpbfmmeaaDoorHeadT
import Derived.Test.YtkhkdnmpbfmmeaaDoorTvx
import Derived.Test.YtkhkdnmpbfmmeaaDoorParX
import Derived.Test.YtkhkdnmpbfmmeaaDoorUse
import Derived.Test.YtkhkdnmpbfmmeaaDoorGame
import Derived.Deep.RegionHeld3
import Derived.Deep.DeepCutAuto
namespace Go.Proofs.YtkhkdnmpbfmmeaaDoor
open Go.RowKit

/-- the number of the first line; line j; is it good; the game of the first k lines -/
def tgH (l : List UInt8) : Int := if 0 < anN l then hdN (gx (spl 10 l) 0) else 0
noncomputable def tgG (l : List UInt8) (n : Int) (j : Nat) : Bool := decide (j < anN l) && tvOk (gx (spl 10 l) j) n
noncomputable def tgUp (l : List UInt8) (n : Int) (k : Nat) : ParD := ((List.range k).map fun j => tvO (gx (spl 10 l) (j + 1)) n, (List.range k).map fun j => tvX (gx (spl 10 l) (j + 1)) n, (List.range k).map fun j => tvP (gx (spl 10 l) (j + 1)) n)
noncomputable def tgF (l : List UInt8) : Int := firstI (fun j => !tgG l (tgH l) (j + 1)) (tgH l).toNat
noncomputable def tgE (l : List UInt8) : Int := if 20000 < l.length then -2 else if tgH l = 0 then 0 else if 0 ≤ tgF l then tgF l + 1 else if tgH l + 1 < (anN l : Int) ∨ mor l = true then tgH l + 1 else -1
noncomputable def tgZ (l : List UInt8) : ParD := if tgE l = -1 then tgUp l (tgH l) (tgH l).toNat else ([], [], [])
theorem tgUp_succ (l : List UInt8) (n : Int) (k : Nat) : tgUp l n (k + 1) = ((tgUp l n k).1 ++ [tvO (gx (spl 10 l) (k + 1)) n], (tgUp l n k).2.1 ++ [tvX (gx (spl 10 l) (k + 1)) n], (tgUp l n k).2.2 ++ [tvP (gx (spl 10 l) (k + 1)) n]) := by
  unfold tgUp
  rw [List.range_succ, List.map_append, List.map_append, List.map_append]
  rfl
theorem tgUp_l (l : List UInt8) (n : Int) (k : Nat) : (tgUp l n k).1.length = k ∧ (tgUp l n k).2.1.length = k ∧ (tgUp l n k).2.2.length = k := by simp [tgUp]
theorem tgH_le (l : List UInt8) : 0 ≤ tgH l ∧ tgH l ≤ 256 := by
  unfold tgH
  split
  · exact hdN_le _
  · omega
theorem tgZ_no {l : List UInt8} (e : tgE l ≠ -1) : tgZ l = ([], [], []) := if_neg e
theorem tg_long {l : List UInt8} (h : 20000 < l.length) : tgE l = -2 ∧ tgZ l = ([], [], []) := by
  have e : tgE l = -2 := by unfold tgE; rw [if_pos h]
  exact ⟨e, tgZ_no (by omega)⟩
theorem tg_head {l : List UInt8} (h3 : l.length ≤ 20000) (h : tgH l = 0) : tgE l = 0 ∧ tgZ l = ([], [], []) := by
  have e : tgE l = 0 := by unfold tgE; rw [if_neg (by omega), if_pos h]
  exact ⟨e, tgZ_no (by omega)⟩
theorem tg_bad {l : List UInt8} (h3 : l.length ≤ 20000) {m k : Nat} (hm : tgH l = (m : Int)) (hk : k < m) (hall : ∀ j, j < k → tgG l m (j + 1) = true) (hb : tgG l m (k + 1) = false) : tgE l = (k : Int) + 1 ∧ tgZ l = ([], [], []) := by
  have f : tgF l = (k : Int) := by
    unfold tgF
    rw [hm]
    exact firstI_hit (by rw [hb]; rfl) (fun j hj => by rw [hall j hj]; rfl) (by omega)
  have e : tgE l = (k : Int) + 1 := by unfold tgE; rw [if_neg (by omega), if_neg (by omega), f, if_pos (by omega)]
  exact ⟨e, tgZ_no (by omega)⟩
theorem tgF_none {l : List UInt8} {m : Nat} (hm : tgH l = (m : Int)) (hall : ∀ j, j < m → tgG l m (j + 1) = true) : tgF l = -1 := by
  unfold tgF
  rw [hm, Int.toNat_natCast]
  exact firstI_none (fun j hj => by rw [hall j hj]; rfl)
theorem tg_more {l : List UInt8} (h3 : l.length ≤ 20000) {m : Nat} (hm : tgH l = (m : Int)) (h0 : 0 < m) (hall : ∀ j, j < m → tgG l m (j + 1) = true) (h : m + 1 < anN l ∨ mor l = true) : tgE l = (m : Int) + 1 ∧ tgZ l = ([], [], []) := by
  have e : tgE l = (m : Int) + 1 := by
    unfold tgE
    rw [if_neg (by omega), if_neg (by omega), tgF_none hm hall, if_neg (by omega), if_pos (h.imp (fun h => by omega) id), hm]
  exact ⟨e, tgZ_no (by omega)⟩
theorem tg_all {l : List UInt8} (h3 : l.length ≤ 20000) {m : Nat} (hm : tgH l = (m : Int)) (h0 : 0 < m) (hall : ∀ j, j < m → tgG l m (j + 1) = true) (h : ¬ (m + 1 < anN l)) (h2 : mor l = false) : tgE l = -1 ∧ tgZ l = tgUp l m m := by
  have e : tgE l = -1 := by
    unfold tgE
    rw [if_neg (by omega), if_neg (by omega), tgF_none hm hall, if_neg (by omega), if_neg (fun k => k.elim (fun k => h (by omega)) (fun k => by rw [h2] at k; cases k))]
  refine ⟨e, ?_⟩
  unfold tgZ
  rw [if_pos e, hm, Int.toNat_natCast]
theorem tgG_no {l : List UInt8} {n : Int} {j : Nat} (h : ¬ j < anN l) : tgG l n j = false := by unfold tgG; rw [decide_eq_false h]; rfl
theorem tgG_bad {l : List UInt8} {n : Int} {j : Nat} (h : tvOk (gx (spl 10 l) j) n = false) : tgG l n j = false := by unfold tgG; rw [h, Bool.and_false]
theorem tgG_yes {l : List UInt8} {n : Int} {j : Nat} (h1 : j < anN l) (h : tvOk (gx (spl 10 l) j) n = true) : tgG l n j = true := by unfold tgG; rw [h, decide_eq_true h1]; rfl
theorem tgG_lt {l : List UInt8} {n : Int} {j : Nat} (h : tgG l n j = true) : j < anN l := by
  unfold tgG at h
  rw [Bool.and_eq_true] at h
  exact of_decide_eq_true h.1
theorem tgZ_len (l : List UInt8) : (tgZ l).1.length ≤ 256 ∧ (tgZ l).2.1.length ≤ 256 ∧ (tgZ l).2.2.length ≤ 256 ∧ ∀ r ∈ (tgZ l).2.1, r.length ≤ 16 := by
  unfold tgZ
  split
  · obtain ⟨h1, h2, h3⟩ := tgUp_l l (tgH l) (tgH l).toNat
    have := tgH_le l
    rw [h1, h2, h3]
    refine ⟨by omega, by omega, by omega, fun r hr => ?_⟩
    obtain ⟨j, _, rfl⟩ := List.mem_map.1 hr
    have := tvX_len (gx (spl 10 l) (j + 1)) (tgH l)
    omega
  · exact ⟨by simp, by simp, by simp, fun r hr => by cases hr⟩

theorem tot_small (xs : List (List Int)) (h : ∀ r ∈ xs, r.length ≤ 16) : tot xs ≤ 16 * xs.length := by
  induction xs with
  | nil => simp [tot]
  | cons x r ih =>
    have h1 := ih (fun y hy => h y (List.mem_cons_of_mem _ hy))
    have h2 := h x List.mem_cons_self
    unfold tot at *
    rw [List.map_cons, List.sum_cons, List.length_cons]
    omega
theorem tgZ_tot (l : List UInt8) : (ptot (tgZ l) : Int) ≤ 8192 := by
  obtain ⟨h1, h2, h3, h4⟩ := tgZ_len l
  have := tot_small _ h4
  unfold ptot artot
  omega
theorem chgF {w w' : World} (h : Below w.heap.size w w') : Chg (fun _ => False) w w' := ⟨h.os, h.tape, h.output, h.size, fun x hx _ => h.block x hx⟩
theorem par_own1 {w : World} {lo lo' n : Nat} {s0 s1 s2 v u : Value} {g : ParD} {nx : List Int} {ys : List ByteArray} (h : ParX w lo s0 s1 s2 v g nx) (k : w.ownsRow lo' 9 1 u n (ys.map Value.string)) : ∀ b, u.ownBlock = some b → s1.ownBlock ≠ some b := by
  obtain ⟨cs, ⟨_, k1, _⟩, _⟩ := h
  exact own_ne k k1 (by decide)
theorem cut_pre {l : List UInt8} (h : Lib.hasPrefix l gmB = true) : ∃ r, l = gmB ++ r ∧ cutR l = r := by
  obtain ⟨r, hr⟩ := List.isPrefixOf_iff_prefix.1 h
  refine ⟨r, hr.symm, ?_⟩
  unfold cutR Lib.trimPrefix
  rw [if_pos h, ← hr, List.drop_left]
set_option maxRecDepth 100000 in
set_option maxHeartbeats 3200000 in
theorem implTextGame (s : ByteArray) (w : World) (B : Nat) (hB : B ≤ w.heap.size) (hP : PN w) (hM : Max w) :
    Calls Tryd.prog 39 #[.string s] w fun e w' => ∃ t0 t1 t2, e = .returned (.tuple #[.agg #[t0, t1, t2], .int .i64 (tgE s.data.toList)]) ∧ OPar w' B t0 t1 t2 (tgZ s.data.toList) ∧ Below B w w' := by
  have HZ := Lib.hid (Lib.size_eq s)
  have bR := Box.new w 54 #[.slice none 0 0, .slice none 0 0, .slice none 0 0]
  have hbR : Below w.heap.size w (w.alloc (.cells #[.slice none 0 0, .slice none 0 0, .slice none 0 0] 54)) := below_alloc (Nat.le_refl _) (Below.refl _ _)
  by_cases h1 : 20000 < s.size
  · have E := Lib.hid (tg_long (l := s.data.toList) (by rw [← HZ.out]; exact h1))
    have F0 := bR.hot 0; have F1 := bR.hot 1; have F2 := bR.hot 2
    have R0 := bR.c0; have R1 := bR.c1; have R2 := bR.c2
    go_enter Tryd.func39, Tryd.ntmps39
    go_wp2
    exact bodyPost_ret (v := .tuple #[.agg #[.slice none 0 0, .slice none 0 0, .slice none 0 0], .int .i64 (-2)]) (by simp [results, Tryd.results39, go_sem, R0, R1, R2]) rfl ⟨_, _, _, by rw [E.out.1], by rw [E.out.2]; exact OPar.nil _ _, hbR.mono hB⟩
  replace h1 : s.size ≤ 20000 := by omega
  have hs4 : s.size ≤ 4000000 := by omega
  have HS := Lib.hid (show s.data.toList.length ≤ 20000 by rw [← HZ.out]; exact h1)
  go_enter Tryd.func39, Tryd.ntmps39
  go_wp2_with fail
  refine (implLines s _ _ (Nat.le_refl _) (hM.keep (keeps_below hbR)) hs4).mono ?_; rintro e w1 ⟨v1, rfl, ho1, hb1⟩
  obtain ⟨AL, cL, rfl⟩ := ho1.form
  have hsz1 : w.heap.size + 1 ≤ w1.heap.size := by have := hb1.size; simpa using this
  have bR1 : Box w1 w.heap.size 54 #[.slice none 0 0, .slice none 0 0, .slice none 0 0] := bR.below hb1 bR.lt
  have hw1 : Below w.heap.size w w1 := below_then hb1 hbR.size hbR
  replace ho1 := ho1.more (show w.heap.size + 1 ≤ _ by simp)
  have HGL := Lib.hid (fun k hk => gt_impLn (s := s) (k := k) hk)
  have HLS := Lib.hid (fun k => impLn_small (s := s) (k := k) hs4)
  have HLen := Lib.hid (impLn_len s)
  have HBadE := Lib.hid (fun m k hm hk ha hb => tg_bad (l := s.data.toList) HS.out (m := m) (k := k) hm hk ha hb)
  have HHead := Lib.hid (fun h => tg_head (l := s.data.toList) HS.out h)
  have HMore := Lib.hid (fun m hm h0 ha h => tg_more (l := s.data.toList) HS.out (m := m) hm h0 ha h)
  have HAll := Lib.hid (fun m hm h0 ha h h2 => tg_all (l := s.data.toList) HS.out (m := m) hm h0 ha h h2)
  generalize impLn s = lns at *
  generalize hl : s.data.toList = l at *
  have HLs := Lib.hid hl
  clear hl hbR bR hb1 h1
  obtain ⟨N, hN⟩ : ∃ N, anN l = N := ⟨_, rfl⟩
  obtain ⟨bo, hbo⟩ : ∃ b, mor l = b := ⟨_, rfl⟩
  rw [hbo] at HLen ⊢
  rw [hN] at HLen
  have HBO := Lib.hid hbo
  have HN := Lib.hid hN
  clear hbo hN
  have hcap := ho1.reads.cap
  have htop := ho1.reads.top
  obtain ⟨hd, hhd⟩ : ∃ x : ByteArray, x = if 0 < N then gt lns 0 else ⟨#[]⟩ := ⟨_, rfl⟩
  have HHD := Lib.hid hhd
  have HTG : Hid (tgH l = hdN hd.data.toList) := Lib.hid (by
    unfold tgH
    rw [hhd, HN.out]
    by_cases h0 : 0 < N
    · have h5 := HLen.out
      rw [if_pos h0, if_pos h0, HGL.out 0 (by omega)]
    · rw [if_neg h0, if_neg h0]; exact hd_nil.symm)
  clear hhd
  go_upto_region 5 with (fail)
  go_cut [36] (fun u36 wx => Hid (u36 = .bool (decide (0 < N)) ∧ wx = w1))
  case first =>
    by_cases h0 : 0 < N
    · have hl0 : 0 < lns.length := by have h5 := HLen.out; omega
      have hli : (0 : Int) < (lns.length : Int) := by omega
      have HD := Lib.hid (decide_eq_true h0)
      cases bo with
      | true =>
        have hl1 : (1 : Int) < (lns.length : Int) := by have h5 := HLen.out; rw [if_pos rfl] at h5; omega
        go_wp2_with fail; go_meet
        exact Lib.hid ⟨by rw [HD.out], rfl⟩
      | false =>
        go_wp2_with fail; go_meet
        exact Lib.hid ⟨by rw [HD.out], rfl⟩
    · have HD := Lib.hid (decide_eq_false h0)
      cases bo with
      | true =>
        have hl2 : ¬ (1 : Int) < (lns.length : Int) := by have h5 := HLen.out; rw [if_pos rfl] at h5; omega
        have hl3 : (0 : Int) < (lns.length : Int) := by have h5 := HLen.out; rw [if_pos rfl] at h5; omega
        go_wp2_with fail; go_meet
        exact Lib.hid ⟨by rw [HD.out], rfl⟩
      | false =>
        have hl3 : ¬ (0 : Int) < (lns.length : Int) := by have h5 := HLen.out; rw [if_neg (by decide)] at h5; omega
        go_wp2_with fail; go_meet
        exact Lib.hid ⟨by rw [HD.out], rfl⟩
  case rest =>
  obtain ⟨hu, hwc⟩ := hcut.out
  rw [hu, hwc]
  clear hcut hu hwc
  go_upto_if 36 with (fail)
  go_cut [6] (fun u6 wx => Hid (u6 = .string hd ∧ wx = w1))
  case first =>
    by_cases h0 : 0 < N
    · have hl0 : 0 < lns.length := by have h5 := HLen.out; omega
      obtain ⟨bl, ol, hAl, hcl⟩ := ho1.reads.at_ hl0
      subst hAl
      rw [Nat.add_zero] at hcl
      have hli : (0 : Int) < (lns.length : Int) := by omega
      go_wp2_with fail; go_meet
      exact Lib.hid ⟨by rw [HHD.out, if_pos h0], rfl⟩
    · go_wp2_with fail; go_meet
      exact Lib.hid ⟨by rw [HHD.out, if_neg h0], rfl⟩
  case rest =>
    obtain ⟨hu, hwc⟩ := hcut.out
    rw [hu, hwc]
    clear hcut hu hwc
    generalize hdl0 : hd.data.toList = hdl at *
    have HDL := Lib.hid hdl0
    clear hdl0
    have F0 := bR1.hot 0; have F1 := bR1.hot 1; have F2 := bR1.hot 2
    have P0 := bR1.c0; have P1 := bR1.c1; have P2 := bR1.c2
    cases hp : Lib.hasPrefix hdl gmB with
    | false =>
      have HP0 := Lib.hid hp
      have EE := Lib.hid (HHead.out (HTG.out.trans (hd_no hp)))
      clear hp
      go_wp2_with (first
        | (go_at_call 81; refine (stringsCut _ _).mono ?_; rintro e w2 ⟨rfl, hw2⟩; rw [hw2, HDL.out, HP0.out])
        | (go_at_call 64; refine (readNumberR _ _ _).mono ?_; rintro e w3 ⟨rfl, q3, rfl⟩; skip))
      have bx := (bR1.drewN q3).set3 (.slice none 0 0) (.slice none 0 0) (.slice none 0 0)
      have R0 := bx.c0; have R1 := bx.c1; have R2 := bx.c2
      exact bodyPost_ret (v := .tuple #[.agg #[.slice none 0 0, .slice none 0 0, .slice none 0 0], .int .i64 (0)]) (by simp [results, Tryd.results39, go_sem, R0, R1, R2]) rfl ⟨_, _, _, by rw [HLs.out, EE.out.1], by rw [HLs.out, EE.out.2]; exact OPar.nil _ _, (Below.trans (below_drewN hw1 q3) ((Chg.set3 _ _ _ _ _).below (below_drewN hw1 q3).size (fun x hx => by have h3 : x = w.heap.size := hx; omega))).mono hB⟩
    | true =>
      have HP0 := Lib.hid hp
      obtain ⟨r, hr, hcr⟩ := cut_pre hp
      have HCR := Lib.hid hcr
      have HTG2 : Hid (tgH l = if 1 ≤ rdNum r 256 then rdNum r 256 else 0) := Lib.hid (HTG.out.trans (by rw [hr]; exact hd_pre r))
      clear hp hr hcr
      by_cases h0 : 0 ≤ rdNum r 256
      · have HF := Lib.hid (show decide (0 ≤ rdNum r (257 - 1)) = true from decide_eq_true h0)
        have HV := Lib.hid (rd_val h0)
        obtain ⟨m, hm⟩ := Int.eq_ofNat_of_zero_le h0
        have h256 := (rdNum_le h0).1
        by_cases h1 : m = 0
        · have EE := Lib.hid (HHead.out (HTG2.out.trans (if_neg (by omega))))
          rw [hm] at HV
          subst h1
          clear h0 hm h256
          go_wp2_with (first
            | (go_at_call 81; refine (stringsCut _ _).mono ?_; rintro e w2 ⟨rfl, hw2⟩; rw [hw2, HDL.out, HP0.out, HCR.out])
            | (go_at_call 64; refine (readNumberR _ _ _).mono ?_; rintro e w3 ⟨rfl, q3, rfl⟩; rw [tx_data, HF.out, HV.out]))
          have bx := (bR1.drewN q3).set3 (.slice none 0 0) (.slice none 0 0) (.slice none 0 0)
          have R0 := bx.c0; have R1 := bx.c1; have R2 := bx.c2
          exact bodyPost_ret (v := .tuple #[.agg #[.slice none 0 0, .slice none 0 0, .slice none 0 0], .int .i64 (0)]) (by simp [results, Tryd.results39, go_sem, R0, R1, R2]) rfl ⟨_, _, _, by rw [HLs.out, EE.out.1], by rw [HLs.out, EE.out.2]; exact OPar.nil _ _, (Below.trans (below_drewN hw1 q3) ((Chg.set3 _ _ _ _ _).below (below_drewN hw1 q3).size (fun x hx => by have h3 : x = w.heap.size := hx; omega))).mono hB⟩
        · have HM := Lib.hid (HTG2.out.trans ((if_pos (show 1 ≤ rdNum r 256 by omega)).trans hm))
          rw [hm] at HV
          have hm256 : m ≤ 256 := by omega
          have hm1 : 1 ≤ m := by omega
          have hmi : ((m : Int) == 0) = false := by rw [beq_eq_false_iff_ne]; omega
          clear h0 hm h256 h1
          have a0 : ∀ q, ((w1.drewN q).alloc (.cells #[.slice none 0 0, .slice none 0 0, .slice none 0 0] 54)).cell? ⟨w1.heap.size, 0, none⟩ = some (.slice none 0 0) := fun q => (Box.new (w1.drewN q) 54 #[.slice none 0 0, .slice none 0 0, .slice none 0 0]).c0
          have h0a : ∀ q, ((w1.drewN q).alloc (.cells #[.slice none 0 0, .slice none 0 0, .slice none 0 0] 54)).frozen? ⟨w1.heap.size, 0, none⟩ = false := fun q => (Box.new (w1.drewN q) 54 #[.slice none 0 0, .slice none 0 0, .slice none 0 0]).hot 0
          have a1 : ∀ q, ((w1.drewN q).alloc (.cells #[.slice none 0 0, .slice none 0 0, .slice none 0 0] 54)).cell? ⟨w1.heap.size, 1, none⟩ = some (.slice none 0 0) := fun q => (Box.new (w1.drewN q) 54 #[.slice none 0 0, .slice none 0 0, .slice none 0 0]).c1
          have h1a : ∀ q, ((w1.drewN q).alloc (.cells #[.slice none 0 0, .slice none 0 0, .slice none 0 0] 54)).frozen? ⟨w1.heap.size, 1, none⟩ = false := fun q => (Box.new (w1.drewN q) 54 #[.slice none 0 0, .slice none 0 0, .slice none 0 0]).hot 1
          have a2 : ∀ q, ((w1.drewN q).alloc (.cells #[.slice none 0 0, .slice none 0 0, .slice none 0 0] 54)).cell? ⟨w1.heap.size, 2, none⟩ = some (.slice none 0 0) := fun q => (Box.new (w1.drewN q) 54 #[.slice none 0 0, .slice none 0 0, .slice none 0 0]).c2
          have h2a : ∀ q, ((w1.drewN q).alloc (.cells #[.slice none 0 0, .slice none 0 0, .slice none 0 0] 54)).frozen? ⟨w1.heap.size, 2, none⟩ = false := fun q => (Box.new (w1.drewN q) 54 #[.slice none 0 0, .slice none 0 0, .slice none 0 0]).hot 2
          go_wp2_with (first
            | (go_at_call 81; refine (stringsCut _ _).mono ?_; rintro e w2 ⟨rfl, hw2⟩; rw [hw2, HDL.out, HP0.out, HCR.out])
            | (go_at_call 64; refine (readNumberR _ _ _).mono ?_; rintro e w3 ⟨rfl, q3, rfl⟩; rw [tx_data, HF.out, HV.out]))
          have bA1 := Box.new (w1.drewN q3) 54 #[.slice none 0 0, .slice none 0 0, .slice none 0 0]
          have hbA : Below w1.heap.size w1 ((w1.drewN q3).alloc (.cells #[.slice none 0 0, .slice none 0 0, .slice none 0 0] 54)) := below_alloc (Nat.le_refl _) (below_drewN (Below.refl _ _) q3)
          have ho2 := ho1.below hbA
          have bR2 := bR1.below hbA bR1.lt
          have hw2 := below_then hbA hw1.size hw1
          have hLL : ∀ z, (Value.slice AL lns.length cL).ownBlock = some z → z < w1.heap.size := fun z hz => (ho1.lt z hz).2
          have HLL := Lib.hid hLL
          have chS := Chg.set3 ((w1.drewN q3).alloc (.cells #[.slice none 0 0, .slice none 0 0, .slice none 0 0] 54)) w1.heap.size (.slice none 0 0) (.slice none 0 0) (.slice none 0 0)
          replace bA1 := bA1.set3 (.slice none 0 0) (.slice none 0 0) (.slice none 0 0)
          replace bR2 := bR2.far3 (show w.heap.size ≠ w1.heap.size by omega) (.slice none 0 0) (.slice none 0 0) (.slice none 0 0)
          replace ho2 := row_chg ho2 chS (fun z hz e => by have h3 : z = w1.heap.size := e; have := hLL z hz; omega)
          replace hw2 := hw2.trans (chS.below hw2.size (fun z hz => by have h3 : z = w1.heap.size := hz; omega))
          clear chS hbA F0 F1 F2 P0 P1 P2 hmi hLL a0 a1 a2 h0a h1a h2a
          go_loopw [12] (fun u wr => ∃ (k i : Nat) (A0 : Option Addr) (c0 : Nat) (A1 : Option Addr) (c1 : Nat) (A2 : Option Addr) (c2 : Nat), k ≤ m ∧ i = k + 1 ∧ u = .int .i64 (i : Int) ∧ Hid (∀ j, j < k → tgG l m (j + 1) = true) ∧ OPar wr (w1.heap.size + 1) (.slice A0 k c0) (.slice A1 k c1) (.slice A2 k c2) (tgUp l m k) ∧ Box wr w1.heap.size 54 #[.slice A0 k c0, .slice A1 k c1, .slice A2 k c2] ∧ Box wr w.heap.size 54 #[.slice none 0 0, .slice none 0 0, .slice none 0 0] ∧ OS wr (w.heap.size + 1) (.slice AL lns.length cL) lns ∧ Below w.heap.size w wr ∧ w1.heap.size + 1 ≤ wr.heap.size) (fun u _ => m + 1 - (intOf u).toNat)
          case atStart => exact ⟨0, 1, none, 0, none, 0, none, 0, Nat.zero_le _, rfl, rfl, Lib.hid (fun j hj => absurd hj (by omega)), OPar.nil _ _, bA1, bR2, ho2, hw2, by simp⟩
          case round =>
            clear bA1 bR1 bR2 ho1 ho2 hw1 hw2
            obtain ⟨k, i, A0, c0, A1, c1, A2, c2, hk, hik, rfl, HA, ho, bA, bR, hrr, hbr, hsz⟩ := hrel
            by_cases hlt : k < m
            · have hile : (i : Int) ≤ (m : Int) := by omega
              have i0 : (0 : Int) ≤ (i : Int) := by omega
              have HIK := Lib.hid hik
              have HEI : Hid ((k : Int) + 1 = (i : Int)) := Lib.hid (by omega)
              have hbad := fun hb => HBadE.out m k HM.out hlt HA.out hb
              rw [← hik, HEI.out] at hbad
              have HBad := Lib.hid hbad
              have HU := tgUp_succ l m k
              rw [← hik] at HU
              have HUp := Lib.hid HU
              clear hik hbad HU
              have e1 : IntKind.i64.wrap ((lns.length : Int) - 1) = (lns.length : Int) - 1 := IntWalk.i64_in _ (by omega)
              have F0 := bR.hot 0; have F1 := bR.hot 1; have F2 := bR.hot 2
              have P0 := bR.c0; have P1 := bR.c1; have P2 := bR.c2
              by_cases hA : lns.length ≤ i
              · have hAi : (lns.length : Int) ≤ (i : Int) := by omega
                have EE := Lib.hid (HBad.out (tgG_no (by rw [HN.out]; have h5 := HLen.out; omega)))
                clear HA hA
                go_wp2
                have bx := (bR).set3 (.slice none 0 0) (.slice none 0 0) (.slice none 0 0)
                have R0 := bx.c0; have R1 := bx.c1; have R2 := bx.c2
                exact bodyPost_ret (v := .tuple #[.agg #[.slice none 0 0, .slice none 0 0, .slice none 0 0], .int .i64 ((i : Int))]) (by simp [results, Tryd.results39, go_sem, R0, R1, R2]) rfl ⟨_, _, _, by rw [HLs.out, EE.out.1], by rw [HLs.out, EE.out.2]; exact OPar.nil _ _, (Below.trans (hbr) ((Chg.set3 _ _ _ _ _).below (hbr).size (fun x hx => by have h3 : x = w.heap.size := hx; omega))).mono hB⟩
              have hAi : (i : Int) < (lns.length : Int) := by omega
              by_cases hl : bo = true ∧ i + 1 = lns.length
              · obtain ⟨rfl, hl2⟩ := hl
                have hli : ((i : Int) == (lns.length : Int) - 1) = true := by rw [beq_iff_eq]; omega
                have EE := Lib.hid (HBad.out (tgG_no (by rw [HN.out]; have h5 := HLen.out; rw [if_pos rfl] at h5; omega)))
                clear HA hl2
                go_wp2
                have bx := (bR).set3 (.slice none 0 0) (.slice none 0 0) (.slice none 0 0)
                have R0 := bx.c0; have R1 := bx.c1; have R2 := bx.c2
                exact bodyPost_ret (v := .tuple #[.agg #[.slice none 0 0, .slice none 0 0, .slice none 0 0], .int .i64 ((i : Int))]) (by simp [results, Tryd.results39, go_sem, R0, R1, R2]) rfl ⟨_, _, _, by rw [HLs.out, EE.out.1], by rw [HLs.out, EE.out.2]; exact OPar.nil _ _, (Below.trans (hbr) ((Chg.set3 _ _ _ _ _).below (hbr).size (fun x hx => by have h3 : x = w.heap.size := hx; omega))).mono hB⟩
              have hiN : i < N := by
                have h5 := HLen.out
                cases bo with
                | true => have h6 : i + 1 ≠ lns.length := fun e => hl ⟨rfl, e⟩; rw [if_pos rfl] at h5; omega
                | false => rw [if_neg (by decide)] at h5; omega
              have HNL : Hid (¬ (bo = true ∧ i + 1 = lns.length)) := Lib.hid hl
              obtain ⟨bl, ol, hAl, hcl⟩ := (OS.reads hrr).at_ (show i < lns.length by omega)
              subst hAl
              have HG := Lib.hid (HGL.out i (by omega))
              have hls := HLS.out i
              have hP3 := hP.keep (keeps_below hbr)
              have hM3 := hM.keep (keeps_below hbr)
              have HIN := Lib.hid hiN
              have hll := tgUp_l l m k
              generalize gt lns i = x at *
              clear hl
              have hi1 : i < lns.length := by omega
              by_cases hl2 : i + 1 = lns.length
              · obtain rfl : bo = false := by cases bo with
                  | true => exact absurd ⟨rfl, hl2⟩ HNL.out
                  | false => rfl
                have hli : ((i : Int) == (lns.length : Int) - 1) = true := by rw [beq_iff_eq]; omega
                clear hl2
                cases hok : tvOk (gx (spl 10 l) i) m with
                | false =>
                  have HOK := Lib.hid hok
                  have EE := Lib.hid (HBad.out (tgG_bad hok))
                  clear HA hok
                  go_wp2_with (go_at_call 26; refine (implTextVertex x m _ _ (Nat.le_refl _) hP3 hM3 hls).mono ?_; rintro e w3 ⟨v3, rfl, hv3, hb3⟩; rw [HG.out, HOK.out]; have bR3 := bR.below hb3 bR.lt; have Z0 := bR3.c0; have Z1 := bR3.c1; have Z2 := bR3.c2; have Y0 := bR3.hot 0; have Y1 := bR3.hot 1; have Y2 := bR3.hot 2)
                  have hbw3 : Below w.heap.size w w3 := below_then hb3 hbr.size hbr
                  have bx := (bR3).set3 (.slice none 0 0) (.slice none 0 0) (.slice none 0 0)
                  have R0 := bx.c0; have R1 := bx.c1; have R2 := bx.c2
                  exact bodyPost_ret (v := .tuple #[.agg #[.slice none 0 0, .slice none 0 0, .slice none 0 0], .int .i64 ((i : Int))]) (by simp [results, Tryd.results39, go_sem, R0, R1, R2]) rfl ⟨_, _, _, by rw [HLs.out, EE.out.1], by rw [HLs.out, EE.out.2]; exact OPar.nil _ _, (Below.trans (hbw3) ((Chg.set3 _ _ _ _ _).below (hbw3).size (fun x hx => by have h3 : x = w.heap.size := hx; omega))).mono hB⟩
                | true =>
                  have HOK := Lib.hid hok
                  have HGood : Hid (tgG l m i = true) := Lib.hid (tgG_yes (by rw [HN.out]; exact HIN.out) hok)
                  clear hok
                  have hl0 : (tgUp l m k).1.length ≤ 4194304 := by rw [hll.1]; omega
                  have hl1 : (tgUp l m k).2.1.length ≤ 4194304 := by rw [hll.2.1]; omega
                  have hl2 : (tgUp l m k).2.2.length ≤ 4194304 := by rw [hll.2.2]; omega
                  have HLL3 := Lib.hid hll
                  clear hll F0 F1 F2 P0 P1 P2
                  go_wp2_with (first
                    | (go_at_call 26
                       refine (implTextVertex x m _ _ (Nat.le_refl _) hP3 hM3 hls).mono ?_
                       rintro e w3 ⟨v3, rfl, hv3, hb3⟩
                       rw [HG.out, HOK.out]
                       rw [HG.out] at hv3
                       obtain ⟨Av, cv, rfl⟩ := hv3.form
                       have X3 := ParX.of ho hsz (chgF hb3) (fun b hb => hb.elim) hv3
                       have bR3 := bR.below hb3 bR.lt
                       have bA3 := bA.below hb3 bA.lt
                       have hrr3 := hrr.below hb3
                       have hsz3 : w1.heap.size + 1 ≤ w3.heap.size := Nat.le_trans hsz hb3.size
                       have hbw3 : Below w.heap.size w w3 := below_then hb3 hbr.size hbr
                       have Z0 := bA3.c0; have Z1 := bA3.c1; have Z2 := bA3.c2; have Y0 := bA3.hot 0; have Y1 := bA3.hot 1; have Y2 := bA3.hot 2)
                    | (at_builtin
                       refine wpList_pushI rfl (.tmp 100) (.tmp 102) rfl w3 (w1.heap.size + 1) (.slice A2 k c2) (tgUp l m k).2.2 rfl X3.row2 (tvP (gx (spl 10 l) i) m) rfl hl2 hsz3 ?_
                       intro v6 w6 ho6 hb6 hc6 hat6
                       obtain ⟨A6, c6, hv6⟩ := ho6.form
                       rw [List.length_append, HLL3.out.2.2, List.length_singleton] at hv6
                       subst hv6
                       have X6 := X3.put2 hc6 ho6 hat6
                       have bA6 : Box w6 w1.heap.size 54 #[.slice A0 k c0, .slice A1 k c1, .slice A2 k c2] := (hc6.block _ bA3.lt (fun e => by have := (X3.row2.lt _ e).1; omega)).trans bA3
                       have bR6 : Box w6 w.heap.size 54 #[.slice none 0 0, .slice none 0 0, .slice none 0 0] := (hc6.block _ bR3.lt (fun e => by have := (X3.row2.lt _ e).1; omega)).trans bR3
                       have hrr6 := row_chg hrr3 hc6 (fun x hx e => own_ne hrr3 X3.row2 (by decide) x hx e)
                       have hsz6 : w1.heap.size + 1 ≤ w6.heap.size := Nat.le_trans hsz3 hb6.size
                       have D0 := bA6.c0; have D1 := bA6.c1; have D2 := bA6.c2; have K0 := bA6.hot 0; have K1 := bA6.hot 1; have K2 := bA6.hot 2
                       have ch7 := Chg.set (w := w6) ⟨w1.heap.size, 2, none⟩ (.slice A6 (k + 1) c6)
                       have X7 := X6.chg ch7 (fun b hb => by have h3 : b = w1.heap.size := hb; omega)
                       have bA7 : Box (w6.setCell ⟨w1.heap.size, 2, none⟩ (.slice A6 (k + 1) c6)) w1.heap.size 54 #[.slice A0 k c0, .slice A1 k c1, .slice A6 (k + 1) c6] := bA6.set_ 2 (.slice A6 (k + 1) c6)
                       have bR7 := bR6.far (p := ⟨w1.heap.size, 2, none⟩) (show w.heap.size ≠ w1.heap.size by omega) (.slice A6 (k + 1) c6)
                       have hrr7 := row_chg hrr6 ch7 (fun z hz e => by have h3 : z = w1.heap.size := e; have := HLL.out z hz; omega)
                       have hbw7 : Below w.heap.size w (w6.setCell ⟨w1.heap.size, 2, none⟩ (.slice A6 (k + 1) c6)) := Below.setCell (hbw3.trans (hb6.mono (by omega))) (by show w.heap.size ≤ w1.heap.size; omega) _)
                    | (at_builtin
                       refine wpList_pushHT rfl (.tmp 107) (.tmp 109) rfl (w6.setCell ⟨w1.heap.size, 2, none⟩ (.slice A6 (k + 1) c6)) w6.heap.size (by simp) (w1.heap.size + 1) (.slice A0 k c0) (tgUp l m k).1 rfl X7.row0 (tvO (gx (spl 10 l) i) m) rfl hl0 hsz6 ?_
                       intro v8 w8 ho8 hb8 hc8 hat8
                       obtain ⟨A8, c8, hv8⟩ := ho8.form
                       rw [List.length_append, HLL3.out.1, List.length_singleton] at hv8
                       subst hv8
                       have X8 := X7.put0 hc8 ho8 hat8
                       have bA8 : Box w8 w1.heap.size 54 #[.slice A0 k c0, .slice A1 k c1, .slice A6 (k + 1) c6] := (hc8.block _ bA7.lt (fun e => by have := (X7.row0.lt _ e).1; omega)).trans bA7
                       have bR8 : Box w8 w.heap.size 54 #[.slice none 0 0, .slice none 0 0, .slice none 0 0] := (hc8.block _ bR7.lt (fun e => by have := (X7.row0.lt _ e).1; omega)).trans bR7
                       have hrr8 := row_chg hrr7 hc8 (fun x hx e => own_ne hrr7 X7.row0 (by decide) x hx e)
                       have hsz8 : w1.heap.size + 1 ≤ w8.heap.size := Nat.le_trans hsz6 (Nat.le_trans (by simp) hb8.size)
                       have N0 := bA8.c0; have N1 := bA8.c1; have N2 := bA8.c2; have M0 := bA8.hot 0; have M1 := bA8.hot 1; have M2 := bA8.hot 2
                       have ch9 := Chg.set (w := w8) ⟨w1.heap.size, 0, none⟩ (.slice A8 (k + 1) c8)
                       have X9 := X8.chg ch9 (fun b hb => by have h3 : b = w1.heap.size := hb; omega)
                       have bA9 : Box (w8.setCell ⟨w1.heap.size, 0, none⟩ (.slice A8 (k + 1) c8)) w1.heap.size 54 #[.slice A8 (k + 1) c8, .slice A1 k c1, .slice A6 (k + 1) c6] := bA8.set_ 0 (.slice A8 (k + 1) c8)
                       have bR9 := bR8.far (p := ⟨w1.heap.size, 0, none⟩) (show w.heap.size ≠ w1.heap.size by omega) (.slice A8 (k + 1) c8)
                       have hrr9 := row_chg hrr8 ch9 (fun z hz e => by have h3 : z = w1.heap.size := e; have := HLL.out z hz; omega)
                       have hbw9 : Below w.heap.size w (w8.setCell ⟨w1.heap.size, 0, none⟩ (.slice A8 (k + 1) c8)) := Below.setCell (hbw7.trans (hb8.mono (by omega))) (by show w.heap.size ≤ w1.heap.size; omega) _)
                    | (at_builtin
                       refine wpList_pushXH rfl (.tmp 115) (.tmp 117) rfl (w8.setCell ⟨w1.heap.size, 0, none⟩ (.slice A8 (k + 1) c8)) w8.heap.size (by simp) (w1.heap.size + 1) (.slice A8 (k + 1) c8) (.slice A1 k c1) (.slice A6 (k + 1) c6) (.slice Av (tvX (gx (spl 10 l) i) m).length cv) _ (tvX (gx (spl 10 l) i) m) rfl rfl hsz8 X9 hl1 ?_
                       intro v10 w10 ho10 hb10 hc10 hat10
                       obtain ⟨_, _, A10, c10, _, _, _, hv10, _⟩ := ho10.form
                       simp only [List.length_append, List.length_singleton, HLL3.out.2.1] at hv10
                       subst hv10
                       have hown1 := X9.old1
                       have bA10 : Box w10 w1.heap.size 54 #[.slice A8 (k + 1) c8, .slice A1 k c1, .slice A6 (k + 1) c6] := (hc10.block _ bA9.lt (fun e => by have := hown1 _ e; omega)).trans bA9
                       have bR10 : Box w10 w.heap.size 54 #[.slice none 0 0, .slice none 0 0, .slice none 0 0] := (hc10.block _ bR9.lt (fun e => by have := hown1 _ e; omega)).trans bR9
                       have hrr10 := row_chg hrr9 hc10 (fun x hx e => par_own1 X9 hrr9 x hx e)
                       have hsz10 : w1.heap.size + 1 ≤ w10.heap.size := Nat.le_trans hsz8 (Nat.le_trans (by simp) hb10.size)
                       have U0 := bA10.c0; have U1 := bA10.c1; have U2 := bA10.c2; have V0 := bA10.hot 0; have V1 := bA10.hot 1; have V2 := bA10.hot 2))
                  have hoE := ho10.chg (Chg.set (w := w10) ⟨w1.heap.size, 1, none⟩ (.slice A10 (k + 1) c10)) (fun b hb => by have h3 : b = w1.heap.size := hb; omega)
                  have hUk : tgUp l m (k + 1) = ((tgUp l m k).1 ++ [tvO (gx (spl 10 l) i) m], (tgUp l m k).2.1 ++ [tvX (gx (spl 10 l) i) m], (tgUp l m k).2.2 ++ [tvP (gx (spl 10 l) i) m]) := by rw [← HIK.out]; exact HUp.out
                  rw [← hUk] at hoE
                  have hAk := Lib.hid (all_succ (p := fun j => tgG l m (j + 1) = true) HA.out (by rw [← HIK.out]; exact HGood.out))
                  have bAE := bA10.set_ 1 (.slice A10 (k + 1) c10)
                  have bRE := bR10.far (p := ⟨w1.heap.size, 1, none⟩) (show w.heap.size ≠ w1.heap.size by omega) (.slice A10 (k + 1) c10)
                  have hrrE := row_chg hrr10 (Chg.set (w := w10) ⟨w1.heap.size, 1, none⟩ (.slice A10 (k + 1) c10)) (fun z hz e => by have h3 : z = w1.heap.size := e; have := HLL.out z hz; omega)
                  have hbwE : Below w.heap.size w (w10.setCell ⟨w1.heap.size, 1, none⟩ (.slice A10 (k + 1) c10)) := Below.setCell (hbw9.trans (hb10.mono (by omega))) (by show w.heap.size ≤ w1.heap.size; omega) _
                  have hszE : w1.heap.size + 1 ≤ (w10.setCell ⟨w1.heap.size, 1, none⟩ (.slice A10 (k + 1) c10)).heap.size := by simpa using hsz10
                  have hk1 : k + 1 ≤ m := hlt
                  have hi1' : i + 1 = (k + 1) + 1 := by rw [HIK.out]
                  go_roundw
                  case rel =>
                    first
                      | exact ⟨k + 1, i + 1, A8, c8, A10, c10, A6, c6, hk1, hi1', by go_num, hAk, hoE, bAE, bRE, hrrE, hbwE, by first | exact hszE | exact hsz10⟩
                      | exact ⟨k + 1, i + 1, A8, c8, A10, c10, A6, c6, hk1, hi1', by go_num, hAk, hoE, bAE, bRE, hrrE, hbwE⟩
                      | exact ⟨k + 1, hk1, by have h7 := HEI.out; omega, hAk, A8, c8, A10, c10, A6, c6, hoE, bAE, bRE, hrrE, hbwE, by first | exact hszE | exact hsz10⟩
                      | exact ⟨k + 1, hk1, by have h7 := HEI.out; omega, hAk, A8, c8, A10, c10, A6, c6, hoE, bAE, bRE, hrrE, hbwE⟩
                  case measure => have := HIK.out; simp [intOf]; omega
              · have hli : ((i : Int) == (lns.length : Int) - 1) = false := by rw [beq_eq_false_iff_ne]; omega
                clear hl2
                cases hok : tvOk (gx (spl 10 l) i) m with
                | false =>
                  have HOK := Lib.hid hok
                  have EE := Lib.hid (HBad.out (tgG_bad hok))
                  clear HA hok
                  go_wp2_with (go_at_call 26; refine (implTextVertex x m _ _ (Nat.le_refl _) hP3 hM3 hls).mono ?_; rintro e w3 ⟨v3, rfl, hv3, hb3⟩; rw [HG.out, HOK.out]; have bR3 := bR.below hb3 bR.lt; have Z0 := bR3.c0; have Z1 := bR3.c1; have Z2 := bR3.c2; have Y0 := bR3.hot 0; have Y1 := bR3.hot 1; have Y2 := bR3.hot 2)
                  have hbw3 : Below w.heap.size w w3 := below_then hb3 hbr.size hbr
                  have bx := (bR3).set3 (.slice none 0 0) (.slice none 0 0) (.slice none 0 0)
                  have R0 := bx.c0; have R1 := bx.c1; have R2 := bx.c2
                  exact bodyPost_ret (v := .tuple #[.agg #[.slice none 0 0, .slice none 0 0, .slice none 0 0], .int .i64 ((i : Int))]) (by simp [results, Tryd.results39, go_sem, R0, R1, R2]) rfl ⟨_, _, _, by rw [HLs.out, EE.out.1], by rw [HLs.out, EE.out.2]; exact OPar.nil _ _, (Below.trans (hbw3) ((Chg.set3 _ _ _ _ _).below (hbw3).size (fun x hx => by have h3 : x = w.heap.size := hx; omega))).mono hB⟩
                | true =>
                  have HOK := Lib.hid hok
                  have HGood : Hid (tgG l m i = true) := Lib.hid (tgG_yes (by rw [HN.out]; exact HIN.out) hok)
                  clear hok
                  have hl0 : (tgUp l m k).1.length ≤ 4194304 := by rw [hll.1]; omega
                  have hl1 : (tgUp l m k).2.1.length ≤ 4194304 := by rw [hll.2.1]; omega
                  have hl2 : (tgUp l m k).2.2.length ≤ 4194304 := by rw [hll.2.2]; omega
                  have HLL3 := Lib.hid hll
                  clear hll F0 F1 F2 P0 P1 P2
                  go_wp2_with (first
                    | (go_at_call 26
                       refine (implTextVertex x m _ _ (Nat.le_refl _) hP3 hM3 hls).mono ?_
                       rintro e w3 ⟨v3, rfl, hv3, hb3⟩
                       rw [HG.out, HOK.out]
                       rw [HG.out] at hv3
                       obtain ⟨Av, cv, rfl⟩ := hv3.form
                       have X3 := ParX.of ho hsz (chgF hb3) (fun b hb => hb.elim) hv3
                       have bR3 := bR.below hb3 bR.lt
                       have bA3 := bA.below hb3 bA.lt
                       have hrr3 := hrr.below hb3
                       have hsz3 : w1.heap.size + 1 ≤ w3.heap.size := Nat.le_trans hsz hb3.size
                       have hbw3 : Below w.heap.size w w3 := below_then hb3 hbr.size hbr
                       have Z0 := bA3.c0; have Z1 := bA3.c1; have Z2 := bA3.c2; have Y0 := bA3.hot 0; have Y1 := bA3.hot 1; have Y2 := bA3.hot 2)
                    | (at_builtin
                       refine wpList_pushI rfl (.tmp 100) (.tmp 102) rfl w3 (w1.heap.size + 1) (.slice A2 k c2) (tgUp l m k).2.2 rfl X3.row2 (tvP (gx (spl 10 l) i) m) rfl hl2 hsz3 ?_
                       intro v6 w6 ho6 hb6 hc6 hat6
                       obtain ⟨A6, c6, hv6⟩ := ho6.form
                       rw [List.length_append, HLL3.out.2.2, List.length_singleton] at hv6
                       subst hv6
                       have X6 := X3.put2 hc6 ho6 hat6
                       have bA6 : Box w6 w1.heap.size 54 #[.slice A0 k c0, .slice A1 k c1, .slice A2 k c2] := (hc6.block _ bA3.lt (fun e => by have := (X3.row2.lt _ e).1; omega)).trans bA3
                       have bR6 : Box w6 w.heap.size 54 #[.slice none 0 0, .slice none 0 0, .slice none 0 0] := (hc6.block _ bR3.lt (fun e => by have := (X3.row2.lt _ e).1; omega)).trans bR3
                       have hrr6 := row_chg hrr3 hc6 (fun x hx e => own_ne hrr3 X3.row2 (by decide) x hx e)
                       have hsz6 : w1.heap.size + 1 ≤ w6.heap.size := Nat.le_trans hsz3 hb6.size
                       have D0 := bA6.c0; have D1 := bA6.c1; have D2 := bA6.c2; have K0 := bA6.hot 0; have K1 := bA6.hot 1; have K2 := bA6.hot 2
                       have ch7 := Chg.set (w := w6) ⟨w1.heap.size, 2, none⟩ (.slice A6 (k + 1) c6)
                       have X7 := X6.chg ch7 (fun b hb => by have h3 : b = w1.heap.size := hb; omega)
                       have bA7 : Box (w6.setCell ⟨w1.heap.size, 2, none⟩ (.slice A6 (k + 1) c6)) w1.heap.size 54 #[.slice A0 k c0, .slice A1 k c1, .slice A6 (k + 1) c6] := bA6.set_ 2 (.slice A6 (k + 1) c6)
                       have bR7 := bR6.far (p := ⟨w1.heap.size, 2, none⟩) (show w.heap.size ≠ w1.heap.size by omega) (.slice A6 (k + 1) c6)
                       have hrr7 := row_chg hrr6 ch7 (fun z hz e => by have h3 : z = w1.heap.size := e; have := HLL.out z hz; omega)
                       have hbw7 : Below w.heap.size w (w6.setCell ⟨w1.heap.size, 2, none⟩ (.slice A6 (k + 1) c6)) := Below.setCell (hbw3.trans (hb6.mono (by omega))) (by show w.heap.size ≤ w1.heap.size; omega) _)
                    | (at_builtin
                       refine wpList_pushHT rfl (.tmp 107) (.tmp 109) rfl (w6.setCell ⟨w1.heap.size, 2, none⟩ (.slice A6 (k + 1) c6)) w6.heap.size (by simp) (w1.heap.size + 1) (.slice A0 k c0) (tgUp l m k).1 rfl X7.row0 (tvO (gx (spl 10 l) i) m) rfl hl0 hsz6 ?_
                       intro v8 w8 ho8 hb8 hc8 hat8
                       obtain ⟨A8, c8, hv8⟩ := ho8.form
                       rw [List.length_append, HLL3.out.1, List.length_singleton] at hv8
                       subst hv8
                       have X8 := X7.put0 hc8 ho8 hat8
                       have bA8 : Box w8 w1.heap.size 54 #[.slice A0 k c0, .slice A1 k c1, .slice A6 (k + 1) c6] := (hc8.block _ bA7.lt (fun e => by have := (X7.row0.lt _ e).1; omega)).trans bA7
                       have bR8 : Box w8 w.heap.size 54 #[.slice none 0 0, .slice none 0 0, .slice none 0 0] := (hc8.block _ bR7.lt (fun e => by have := (X7.row0.lt _ e).1; omega)).trans bR7
                       have hrr8 := row_chg hrr7 hc8 (fun x hx e => own_ne hrr7 X7.row0 (by decide) x hx e)
                       have hsz8 : w1.heap.size + 1 ≤ w8.heap.size := Nat.le_trans hsz6 (Nat.le_trans (by simp) hb8.size)
                       have N0 := bA8.c0; have N1 := bA8.c1; have N2 := bA8.c2; have M0 := bA8.hot 0; have M1 := bA8.hot 1; have M2 := bA8.hot 2
                       have ch9 := Chg.set (w := w8) ⟨w1.heap.size, 0, none⟩ (.slice A8 (k + 1) c8)
                       have X9 := X8.chg ch9 (fun b hb => by have h3 : b = w1.heap.size := hb; omega)
                       have bA9 : Box (w8.setCell ⟨w1.heap.size, 0, none⟩ (.slice A8 (k + 1) c8)) w1.heap.size 54 #[.slice A8 (k + 1) c8, .slice A1 k c1, .slice A6 (k + 1) c6] := bA8.set_ 0 (.slice A8 (k + 1) c8)
                       have bR9 := bR8.far (p := ⟨w1.heap.size, 0, none⟩) (show w.heap.size ≠ w1.heap.size by omega) (.slice A8 (k + 1) c8)
                       have hrr9 := row_chg hrr8 ch9 (fun z hz e => by have h3 : z = w1.heap.size := e; have := HLL.out z hz; omega)
                       have hbw9 : Below w.heap.size w (w8.setCell ⟨w1.heap.size, 0, none⟩ (.slice A8 (k + 1) c8)) := Below.setCell (hbw7.trans (hb8.mono (by omega))) (by show w.heap.size ≤ w1.heap.size; omega) _)
                    | (at_builtin
                       refine wpList_pushXH rfl (.tmp 115) (.tmp 117) rfl (w8.setCell ⟨w1.heap.size, 0, none⟩ (.slice A8 (k + 1) c8)) w8.heap.size (by simp) (w1.heap.size + 1) (.slice A8 (k + 1) c8) (.slice A1 k c1) (.slice A6 (k + 1) c6) (.slice Av (tvX (gx (spl 10 l) i) m).length cv) _ (tvX (gx (spl 10 l) i) m) rfl rfl hsz8 X9 hl1 ?_
                       intro v10 w10 ho10 hb10 hc10 hat10
                       obtain ⟨_, _, A10, c10, _, _, _, hv10, _⟩ := ho10.form
                       simp only [List.length_append, List.length_singleton, HLL3.out.2.1] at hv10
                       subst hv10
                       have hown1 := X9.old1
                       have bA10 : Box w10 w1.heap.size 54 #[.slice A8 (k + 1) c8, .slice A1 k c1, .slice A6 (k + 1) c6] := (hc10.block _ bA9.lt (fun e => by have := hown1 _ e; omega)).trans bA9
                       have bR10 : Box w10 w.heap.size 54 #[.slice none 0 0, .slice none 0 0, .slice none 0 0] := (hc10.block _ bR9.lt (fun e => by have := hown1 _ e; omega)).trans bR9
                       have hrr10 := row_chg hrr9 hc10 (fun x hx e => par_own1 X9 hrr9 x hx e)
                       have hsz10 : w1.heap.size + 1 ≤ w10.heap.size := Nat.le_trans hsz8 (Nat.le_trans (by simp) hb10.size)
                       have U0 := bA10.c0; have U1 := bA10.c1; have U2 := bA10.c2; have V0 := bA10.hot 0; have V1 := bA10.hot 1; have V2 := bA10.hot 2))
                  have hoE := ho10.chg (Chg.set (w := w10) ⟨w1.heap.size, 1, none⟩ (.slice A10 (k + 1) c10)) (fun b hb => by have h3 : b = w1.heap.size := hb; omega)
                  have hUk : tgUp l m (k + 1) = ((tgUp l m k).1 ++ [tvO (gx (spl 10 l) i) m], (tgUp l m k).2.1 ++ [tvX (gx (spl 10 l) i) m], (tgUp l m k).2.2 ++ [tvP (gx (spl 10 l) i) m]) := by rw [← HIK.out]; exact HUp.out
                  rw [← hUk] at hoE
                  have hAk := Lib.hid (all_succ (p := fun j => tgG l m (j + 1) = true) HA.out (by rw [← HIK.out]; exact HGood.out))
                  have bAE := bA10.set_ 1 (.slice A10 (k + 1) c10)
                  have bRE := bR10.far (p := ⟨w1.heap.size, 1, none⟩) (show w.heap.size ≠ w1.heap.size by omega) (.slice A10 (k + 1) c10)
                  have hrrE := row_chg hrr10 (Chg.set (w := w10) ⟨w1.heap.size, 1, none⟩ (.slice A10 (k + 1) c10)) (fun z hz e => by have h3 : z = w1.heap.size := e; have := HLL.out z hz; omega)
                  have hbwE : Below w.heap.size w (w10.setCell ⟨w1.heap.size, 1, none⟩ (.slice A10 (k + 1) c10)) := Below.setCell (hbw9.trans (hb10.mono (by omega))) (by show w.heap.size ≤ w1.heap.size; omega) _
                  have hszE : w1.heap.size + 1 ≤ (w10.setCell ⟨w1.heap.size, 1, none⟩ (.slice A10 (k + 1) c10)).heap.size := by simpa using hsz10
                  have hk1 : k + 1 ≤ m := hlt
                  have hi1' : i + 1 = (k + 1) + 1 := by rw [HIK.out]
                  go_roundw
                  case rel =>
                    first
                      | exact ⟨k + 1, i + 1, A8, c8, A10, c10, A6, c6, hk1, hi1', by go_num, hAk, hoE, bAE, bRE, hrrE, hbwE, by first | exact hszE | exact hsz10⟩
                      | exact ⟨k + 1, i + 1, A8, c8, A10, c10, A6, c6, hk1, hi1', by go_num, hAk, hoE, bAE, bRE, hrrE, hbwE⟩
                      | exact ⟨k + 1, hk1, by have h7 := HEI.out; omega, hAk, A8, c8, A10, c10, A6, c6, hoE, bAE, bRE, hrrE, hbwE, by first | exact hszE | exact hsz10⟩
                      | exact ⟨k + 1, hk1, by have h7 := HEI.out; omega, hAk, A8, c8, A10, c10, A6, c6, hoE, bAE, bRE, hrrE, hbwE⟩
                  case measure => have := HIK.out; simp [intOf]; omega
            · have hkm : k = m := by omega
              subst hkm
              have hnlt : ¬ (i : Int) ≤ (k : Int) := by omega
              have hkN : k < N := by have h6 := tgG_lt (HA.out (k - 1) (by omega)); rw [HN.out, show k - 1 + 1 = k by omega] at h6; exact h6
              have e1 : IntKind.i64.wrap ((k : Int) + 1) = (k : Int) + 1 := IntWalk.i64_in _ (by omega)
              clear hik
              have F0 := bR.hot 0; have F1 := bR.hot 1; have F2 := bR.hot 2
              have P0 := bR.c0; have P1 := bR.c1; have P2 := bR.c2
              by_cases hlen : k + 1 < lns.length
              · have hli : (k : Int) + 1 < (lns.length : Int) := by omega
                have EE := Lib.hid (HMore.out k HM.out (by omega) HA.out (by
                  rw [HN.out]
                  have h5 := HLen.out
                  cases bo with
                  | true => exact .inr HBO.out
                  | false => rw [if_neg (by decide)] at h5; exact .inl (by omega)))
                clear HA hlen
                go_wp2
                have bx := (bR).set3 (.slice none 0 0) (.slice none 0 0) (.slice none 0 0)
                have R0 := bx.c0; have R1 := bx.c1; have R2 := bx.c2
                exact bodyPost_ret (v := .tuple #[.agg #[.slice none 0 0, .slice none 0 0, .slice none 0 0], .int .i64 ((k : Int) + 1)]) (by simp [results, Tryd.results39, go_sem, R0, R1, R2]) rfl ⟨_, _, _, by rw [HLs.out, EE.out.1], by rw [HLs.out, EE.out.2]; exact OPar.nil _ _, (Below.trans (hbr) ((Chg.set3 _ _ _ _ _).below (hbr).size (fun x hx => by have h3 : x = w.heap.size := hx; omega))).mono hB⟩
              · have hli : ¬ (k : Int) + 1 < (lns.length : Int) := by omega
                have hbo2 : bo = false := by
                  have h5 := HLen.out
                  cases bo with
                  | true => rw [if_pos rfl] at h5; omega
                  | false => rfl
                have EE := Lib.hid (HAll.out k HM.out (by omega) HA.out (by rw [HN.out]; have h5 := HLen.out; omega) (by rw [HBO.out]; exact hbo2))
                have C0 := bA.c0; have C1 := bA.c1; have C2 := bA.c2
                clear HA hlen hbo2
                go_wp2
                have bx := bR.set3 (.slice A0 k c0) (.slice A1 k c1) (.slice A2 k c2)
                have R0 := bx.c0; have R1 := bx.c1; have R2 := bx.c2
                have chS := Chg.set3 wr w.heap.size (.slice A0 k c0) (.slice A1 k c1) (.slice A2 k c2)
                refine bodyPost_ret (v := .tuple #[.agg #[.slice A0 k c0, .slice A1 k c1, .slice A2 k c2], .int .i64 (-1)]) (by simp [results, Tryd.results39, go_sem, R0, R1, R2]) rfl ⟨_, _, _, by rw [HLs.out, EE.out.1], ?_, (hbr.trans (chS.below hbr.size (fun x hx => by have h3 : x = w.heap.size := hx; omega))).mono hB⟩
                rw [HLs.out, EE.out.2]
                exact (ho.chg chS (fun b hb => by have h3 : b = w.heap.size := hb; omega)).more (by omega)
      · have HF := Lib.hid (show decide (0 ≤ rdNum r (257 - 1)) = false from decide_eq_false h0)
        have EE := Lib.hid (HHead.out (HTG2.out.trans (if_neg (by omega))))
        clear h0
        go_wp2_with (first
          | (go_at_call 81; refine (stringsCut _ _).mono ?_; rintro e w2 ⟨rfl, hw2⟩; rw [hw2, HDL.out, HP0.out, HCR.out])
          | (go_at_call 64; refine (readNumberR _ _ _).mono ?_; rintro e w3 ⟨rfl, q3, rfl⟩; rw [tx_data, HF.out]))
        have bx := (bR1.drewN q3).set3 (.slice none 0 0) (.slice none 0 0) (.slice none 0 0)
        have R0 := bx.c0; have R1 := bx.c1; have R2 := bx.c2
        exact bodyPost_ret (v := .tuple #[.agg #[.slice none 0 0, .slice none 0 0, .slice none 0 0], .int .i64 (0)]) (by simp [results, Tryd.results39, go_sem, R0, R1, R2]) rfl ⟨_, _, _, by rw [HLs.out, EE.out.1], by rw [HLs.out, EE.out.2]; exact OPar.nil _ _, (Below.trans (below_drewN hw1 q3) ((Chg.set3 _ _ _ _ _).below (below_drewN hw1 q3).size (fun x hx => by have h3 : x = w.heap.size := hx; omega))).mono hB⟩
theorem gt_spLn {s : ByteArray} {k : Nat} (hk : k < ((splT 10 s).take (anN s.data.toList)).length) : (gt ((splT 10 s).take (anN s.data.toList)) k).data.toList = gx (spl 10 s.data.toList) k := by
  rw [List.length_take] at hk
  rw [gt_take (by omega)]
  exact gtd 10 s k
theorem spLn_small {s : ByteArray} {k : Nat} (hs : s.size ≤ 4000000) : (gt ((splT 10 s).take (anN s.data.toList)) k).size ≤ 4000000 := by
  by_cases hk : k < anN s.data.toList
  · rw [gt_take hk]; exact Nat.le_trans line_small hs
  · unfold gt
    rw [List.getD_eq_getElem?_getD, List.getElem?_eq_none (by rw [List.length_take]; omega)]
    simp
theorem spLn_len (s : ByteArray) : ((splT 10 s).take (anN s.data.toList)).length = anN s.data.toList := by rw [List.length_take, linesLen]; omega
set_option maxRecDepth 100000 in
set_option maxHeartbeats 3200000 in
theorem specTextGame (s : ByteArray) (w : World) (B : Nat) (hB : B ≤ w.heap.size) :
    Calls Tryd.prog 38 #[.string s] w fun e w' => ∃ t0 t1 t2, e = .returned (.tuple #[.agg #[t0, t1, t2], .int .i64 (tgE s.data.toList)]) ∧ OPar w' B t0 t1 t2 (tgZ s.data.toList) ∧ Below B w w' := by
  have HZ := Lib.hid (Lib.size_eq s)
  have bR := Box.new w 54 #[.slice none 0 0, .slice none 0 0, .slice none 0 0]
  have hbR : Below w.heap.size w (w.alloc (.cells #[.slice none 0 0, .slice none 0 0, .slice none 0 0] 54)) := below_alloc (Nat.le_refl _) (Below.refl _ _)
  by_cases h1 : 20000 < s.size
  · have E := Lib.hid (tg_long (l := s.data.toList) (by rw [← HZ.out]; exact h1))
    have F0 := bR.hot 0; have F1 := bR.hot 1; have F2 := bR.hot 2
    have R0 := bR.c0; have R1 := bR.c1; have R2 := bR.c2
    go_enter Tryd.func38, Tryd.ntmps38
    go_wp2
    exact bodyPost_ret (v := .tuple #[.agg #[.slice none 0 0, .slice none 0 0, .slice none 0 0], .int .i64 (-2)]) (by simp [results, Tryd.results38, go_sem, R0, R1, R2]) rfl ⟨_, _, _, by rw [E.out.1], by rw [E.out.2]; exact OPar.nil _ _, hbR.mono hB⟩
  replace h1 : s.size ≤ 20000 := by omega
  have hs4 : s.size ≤ 4000000 := by omega
  have HS := Lib.hid (show s.data.toList.length ≤ 20000 by rw [← HZ.out]; exact h1)
  go_enter Tryd.func38, Tryd.ntmps38
  go_wp2_with fail
  refine (specLines s _ _ (Nat.le_refl _) hs4).mono ?_; rintro e w1 ⟨v1, rfl, ho1, hb1⟩
  obtain ⟨AL, cL, rfl⟩ := ho1.form
  have hsz1 : w.heap.size + 1 ≤ w1.heap.size := by have := hb1.size; simpa using this
  have bR1 : Box w1 w.heap.size 54 #[.slice none 0 0, .slice none 0 0, .slice none 0 0] := bR.below hb1 bR.lt
  have hw1 : Below w.heap.size w w1 := below_then hb1 hbR.size hbR
  replace ho1 := ho1.more (show w.heap.size + 1 ≤ _ by simp)
  have HGL := Lib.hid (fun k hk => gt_spLn (s := s) (k := k) hk)
  have HLS := Lib.hid (fun k => spLn_small (s := s) (k := k) hs4)
  have HLen := Lib.hid (spLn_len s)
  have HBadE := Lib.hid (fun m k hm hk ha hb => tg_bad (l := s.data.toList) HS.out (m := m) (k := k) hm hk ha hb)
  have HHead := Lib.hid (fun h => tg_head (l := s.data.toList) HS.out h)
  have HMore := Lib.hid (fun m hm h0 ha h => tg_more (l := s.data.toList) HS.out (m := m) hm h0 ha h)
  have HAll := Lib.hid (fun m hm h0 ha h h2 => tg_all (l := s.data.toList) HS.out (m := m) hm h0 ha h h2)
  generalize (splT 10 s).take (anN s.data.toList) = lns at *
  generalize hl : s.data.toList = l at *
  have HLs := Lib.hid hl
  clear hl hbR bR hb1 h1
  obtain ⟨N, hN⟩ : ∃ N, anN l = N := ⟨_, rfl⟩
  obtain ⟨bo, hbo⟩ : ∃ b, mor l = b := ⟨_, rfl⟩
  rw [hbo]
  rw [hN] at HLen
  have HBO := Lib.hid hbo
  have HN := Lib.hid hN
  clear hbo hN
  have hcap := ho1.reads.cap
  have htop := ho1.reads.top
  by_cases h0 : lns.length = 0
  · have hli : ((lns.length : Int) == 0) = true := by rw [beq_iff_eq]; omega
    have EE := Lib.hid (HHead.out (by unfold tgH; rw [if_neg (by have h5 := HLen.out; rw [HN.out]; omega)]))
    clear h0
    have F0 := bR1.hot 0; have F1 := bR1.hot 1; have F2 := bR1.hot 2
    have P0 := bR1.c0; have P1 := bR1.c1; have P2 := bR1.c2
    go_wp2
    have bx := (bR1).set3 (.slice none 0 0) (.slice none 0 0) (.slice none 0 0)
    have R0 := bx.c0; have R1 := bx.c1; have R2 := bx.c2
    exact bodyPost_ret (v := .tuple #[.agg #[.slice none 0 0, .slice none 0 0, .slice none 0 0], .int .i64 (0)]) (by simp [results, Tryd.results38, go_sem, R0, R1, R2]) rfl ⟨_, _, _, by rw [HLs.out, EE.out.1], by rw [HLs.out, EE.out.2]; exact OPar.nil _ _, (Below.trans (hw1) ((Chg.set3 _ _ _ _ _).below (hw1).size (fun x hx => by have h3 : x = w.heap.size := hx; omega))).mono hB⟩
  have hli : ((lns.length : Int) == 0) = false := by rw [beq_eq_false_iff_ne]; omega
  obtain ⟨bl0, ol0, hAl0, hcl0⟩ := ho1.reads.at_ (show 0 < lns.length by omega)
  subst hAl0
  rw [Nat.add_zero] at hcl0
  have hl0i : (0 : Int) < (lns.length : Int) := by omega
  obtain ⟨m, hm⟩ := Int.eq_ofNat_of_zero_le (tgH_le l).1
  have hm256 : m ≤ 256 := by have := (tgH_le l).2; omega
  have HTG : Hid (hdN (gt lns 0).data.toList = (m : Int)) := Lib.hid (by
    rw [← hm]
    unfold tgH
    rw [if_pos (by have h5 := HLen.out; rw [HN.out]; omega), HGL.out 0 (by omega)])
  have hls0 := HLS.out 0
  have HM := Lib.hid hm
  clear hm h0
  go_wp2_with fail
  refine (l13Head _ _ _ (Nat.le_refl _) hls0).mono ?_; rintro e w2 ⟨rfl, hb2⟩; rw [HTG.out]
  have bR2 := bR1.below hb2 bR1.lt
  have ho2 := ho1.below hb2
  have hw2 := below_then hb2 hw1.size hw1
  have hsz2 : w.heap.size + 1 ≤ w2.heap.size := Nat.le_trans hsz1 hb2.size
  have hLL2 : ∀ z, (Value.slice (some ⟨bl0, ol0, none⟩) lns.length cL).ownBlock = some z → z < w2.heap.size := fun z hz => Nat.lt_of_lt_of_le (ho1.lt z hz).2 hb2.size
  clear hcl0 hb2 hls0 bR1 ho1 hw1 hsz1
  by_cases h1 : m = 0
  · have EE := Lib.hid (HHead.out (by rw [HM.out, h1]; rfl))
    subst h1
    have F0 := bR2.hot 0; have F1 := bR2.hot 1; have F2 := bR2.hot 2
    have P0 := bR2.c0; have P1 := bR2.c1; have P2 := bR2.c2
    go_wp2
    have bx := (bR2).set3 (.slice none 0 0) (.slice none 0 0) (.slice none 0 0)
    have R0 := bx.c0; have R1 := bx.c1; have R2 := bx.c2
    exact bodyPost_ret (v := .tuple #[.agg #[.slice none 0 0, .slice none 0 0, .slice none 0 0], .int .i64 (0)]) (by simp [results, Tryd.results38, go_sem, R0, R1, R2]) rfl ⟨_, _, _, by rw [HLs.out, EE.out.1], by rw [HLs.out, EE.out.2]; exact OPar.nil _ _, (Below.trans (hw2) ((Chg.set3 _ _ _ _ _).below (hw2).size (fun x hx => by have h3 : x = w.heap.size := hx; omega))).mono hB⟩
  have hm1 : 1 ≤ m := by omega
  have hmi : ((m : Int) == 0) = false := by rw [beq_eq_false_iff_ne]; omega
  clear h1
  go_wp2_with fail
  have bA1 := Box.new w2 54 #[.slice none 0 0, .slice none 0 0, .slice none 0 0]
  have hbA : Below w2.heap.size w2 (w2.alloc (.cells #[.slice none 0 0, .slice none 0 0, .slice none 0 0] 54)) := below_alloc (Nat.le_refl _) (Below.refl _ _)
  replace ho2 := ho2.below hbA
  replace bR2 := bR2.below hbA bR2.lt
  replace hw2 := below_then hbA hw2.size hw2
  have HLL := Lib.hid hLL2
  clear hbA hmi hLL2
  go_loopw [8] (fun u wr => ∃ (k i : Nat) (A0 : Option Addr) (c0 : Nat) (A1 : Option Addr) (c1 : Nat) (A2 : Option Addr) (c2 : Nat), k ≤ m ∧ i = k + 1 ∧ u = .int .i64 (i : Int) ∧ Hid (∀ j, j < k → tgG l m (j + 1) = true) ∧ OPar wr (w2.heap.size + 1) (.slice A0 k c0) (.slice A1 k c1) (.slice A2 k c2) (tgUp l m k) ∧ Box wr w2.heap.size 54 #[.slice A0 k c0, .slice A1 k c1, .slice A2 k c2] ∧ Box wr w.heap.size 54 #[.slice none 0 0, .slice none 0 0, .slice none 0 0] ∧ OS wr (w.heap.size + 1) (.slice (some ⟨bl0, ol0, none⟩) lns.length cL) lns ∧ Below w.heap.size w wr ∧ w2.heap.size + 1 ≤ wr.heap.size) (fun u _ => m + 1 - (intOf u).toNat)
  case atStart => exact ⟨0, 1, none, 0, none, 0, none, 0, Nat.zero_le _, rfl, rfl, Lib.hid (fun j hj => absurd hj (by omega)), OPar.nil _ _, bA1, bR2, ho2, hw2, by simp⟩
  case round =>
    clear bA1 bR2 ho2 hw2
    obtain ⟨k, i, A0, c0, A1, c1, A2, c2, hk, hik, rfl, HA, ho, bA, bR, hrr, hbr, hsz⟩ := hrel
    by_cases hlt : k < m
    · have hile : (i : Int) ≤ (m : Int) := by omega
      have i0 : (0 : Int) ≤ (i : Int) := by omega
      have HIK := Lib.hid hik
      have HEI : Hid ((k : Int) + 1 = (i : Int)) := Lib.hid (by omega)
      have hbad := fun hb => HBadE.out m k HM.out hlt HA.out hb
      rw [← hik, HEI.out] at hbad
      have HBad := Lib.hid hbad
      have HU := tgUp_succ l m k
      rw [← hik] at HU
      have HUp := Lib.hid HU
      clear hik hbad HU
      have F0 := bR.hot 0; have F1 := bR.hot 1; have F2 := bR.hot 2
      have P0 := bR.c0; have P1 := bR.c1; have P2 := bR.c2
      by_cases hA : lns.length ≤ i
      · have hAi : (lns.length : Int) ≤ (i : Int) := by omega
        have EE := Lib.hid (HBad.out (tgG_no (by rw [HN.out]; have h5 := HLen.out; omega)))
        clear HA hA
        go_wp2
        have bx := (bR).set3 (.slice none 0 0) (.slice none 0 0) (.slice none 0 0)
        have R0 := bx.c0; have R1 := bx.c1; have R2 := bx.c2
        exact bodyPost_ret (v := .tuple #[.agg #[.slice none 0 0, .slice none 0 0, .slice none 0 0], .int .i64 ((i : Int))]) (by simp [results, Tryd.results38, go_sem, R0, R1, R2]) rfl ⟨_, _, _, by rw [HLs.out, EE.out.1], by rw [HLs.out, EE.out.2]; exact OPar.nil _ _, (Below.trans (hbr) ((Chg.set3 _ _ _ _ _).below (hbr).size (fun x hx => by have h3 : x = w.heap.size := hx; omega))).mono hB⟩
      have hAi : (i : Int) < (lns.length : Int) := by omega
      have hiN : i < N := by have h5 := HLen.out; omega
      obtain ⟨bl, ol, hAl, hcl⟩ := (OS.reads hrr).at_ (show i < lns.length by omega)
      injection hAl with hAl; injection hAl with hbl hol; subst hbl; subst hol
      have HG := Lib.hid (HGL.out i (by omega))
      have hls := HLS.out i
      have HIN := Lib.hid hiN
      have hll := tgUp_l l m k
      generalize gt lns i = x at *
      cases hok : tvOk (gx (spl 10 l) i) m with
      | false =>
        have HOK := Lib.hid hok
        have EE := Lib.hid (HBad.out (tgG_bad hok))
        clear HA hok
        go_wp2_with (go_at_call 25; refine (specTextVertex x m _ _ (Nat.le_refl _) hls).mono ?_; rintro e w3 ⟨v3, rfl, hv3, hb3⟩; rw [HG.out, HOK.out]; have bR3 := bR.below hb3 bR.lt; have Z0 := bR3.c0; have Z1 := bR3.c1; have Z2 := bR3.c2; have Y0 := bR3.hot 0; have Y1 := bR3.hot 1; have Y2 := bR3.hot 2)
        have hbw3 : Below w.heap.size w w3 := below_then hb3 hbr.size hbr
        have bx := (bR3).set3 (.slice none 0 0) (.slice none 0 0) (.slice none 0 0)
        have R0 := bx.c0; have R1 := bx.c1; have R2 := bx.c2
        exact bodyPost_ret (v := .tuple #[.agg #[.slice none 0 0, .slice none 0 0, .slice none 0 0], .int .i64 ((i : Int))]) (by simp [results, Tryd.results38, go_sem, R0, R1, R2]) rfl ⟨_, _, _, by rw [HLs.out, EE.out.1], by rw [HLs.out, EE.out.2]; exact OPar.nil _ _, (Below.trans (hbw3) ((Chg.set3 _ _ _ _ _).below (hbw3).size (fun x hx => by have h3 : x = w.heap.size := hx; omega))).mono hB⟩
      | true =>
        have HOK := Lib.hid hok
        have HGood : Hid (tgG l m i = true) := Lib.hid (tgG_yes (by rw [HN.out]; exact HIN.out) hok)
        clear hok
        have hl0 : (tgUp l m k).1.length ≤ 4194304 := by rw [hll.1]; omega
        have hl1 : (tgUp l m k).2.1.length ≤ 4194304 := by rw [hll.2.1]; omega
        have hl2 : (tgUp l m k).2.2.length ≤ 4194304 := by rw [hll.2.2]; omega
        have HLL3 := Lib.hid hll
        clear hll F0 F1 F2 P0 P1 P2
        go_wp2_with (first
          | (go_at_call 25
             refine (specTextVertex x m _ _ (Nat.le_refl _) hls).mono ?_
             rintro e w3 ⟨v3, rfl, hv3, hb3⟩
             rw [HG.out, HOK.out]
             rw [HG.out] at hv3
             obtain ⟨Av, cv, rfl⟩ := hv3.form
             have X3 := ParX.of ho hsz (chgF hb3) (fun b hb => hb.elim) hv3
             have bR3 := bR.below hb3 bR.lt
             have bA3 := bA.below hb3 bA.lt
             have hrr3 := hrr.below hb3
             have hsz3 : w2.heap.size + 1 ≤ w3.heap.size := Nat.le_trans hsz hb3.size
             have hbw3 : Below w.heap.size w w3 := below_then hb3 hbr.size hbr
             have Z0 := bA3.c0; have Z1 := bA3.c1; have Z2 := bA3.c2; have Y0 := bA3.hot 0; have Y1 := bA3.hot 1; have Y2 := bA3.hot 2)
          | (at_builtin
             refine wpList_pushI rfl (.tmp 61) (.tmp 63) rfl w3 (w2.heap.size + 1) (.slice A2 k c2) (tgUp l m k).2.2 rfl X3.row2 (tvP (gx (spl 10 l) i) m) rfl hl2 hsz3 ?_
             intro v6 w6 ho6 hb6 hc6 hat6
             obtain ⟨A6, c6, hv6⟩ := ho6.form
             rw [List.length_append, HLL3.out.2.2, List.length_singleton] at hv6
             subst hv6
             have X6 := X3.put2 hc6 ho6 hat6
             have bA6 : Box w6 w2.heap.size 54 #[.slice A0 k c0, .slice A1 k c1, .slice A2 k c2] := (hc6.block _ bA3.lt (fun e => by have := (X3.row2.lt _ e).1; omega)).trans bA3
             have bR6 : Box w6 w.heap.size 54 #[.slice none 0 0, .slice none 0 0, .slice none 0 0] := (hc6.block _ bR3.lt (fun e => by have := (X3.row2.lt _ e).1; omega)).trans bR3
             have hrr6 := row_chg hrr3 hc6 (fun x hx e => own_ne hrr3 X3.row2 (by decide) x hx e)
             have hsz6 : w2.heap.size + 1 ≤ w6.heap.size := Nat.le_trans hsz3 hb6.size
             have D0 := bA6.c0; have D1 := bA6.c1; have D2 := bA6.c2; have K0 := bA6.hot 0; have K1 := bA6.hot 1; have K2 := bA6.hot 2
             have ch7 := Chg.set (w := w6) ⟨w2.heap.size, 2, none⟩ (.slice A6 (k + 1) c6)
             have X7 := X6.chg ch7 (fun b hb => by have h3 : b = w2.heap.size := hb; omega)
             have bA7 : Box (w6.setCell ⟨w2.heap.size, 2, none⟩ (.slice A6 (k + 1) c6)) w2.heap.size 54 #[.slice A0 k c0, .slice A1 k c1, .slice A6 (k + 1) c6] := bA6.set_ 2 (.slice A6 (k + 1) c6)
             have bR7 := bR6.far (p := ⟨w2.heap.size, 2, none⟩) (show w.heap.size ≠ w2.heap.size by omega) (.slice A6 (k + 1) c6)
             have hrr7 := row_chg hrr6 ch7 (fun z hz e => by have h3 : z = w2.heap.size := e; have := HLL.out z hz; omega)
             have hbw7 : Below w.heap.size w (w6.setCell ⟨w2.heap.size, 2, none⟩ (.slice A6 (k + 1) c6)) := Below.setCell (hbw3.trans (hb6.mono (by omega))) (by show w.heap.size ≤ w2.heap.size; omega) _)
          | (at_builtin
             refine wpList_pushHT rfl (.tmp 68) (.tmp 70) rfl (w6.setCell ⟨w2.heap.size, 2, none⟩ (.slice A6 (k + 1) c6)) w6.heap.size (by simp) (w2.heap.size + 1) (.slice A0 k c0) (tgUp l m k).1 rfl X7.row0 (tvO (gx (spl 10 l) i) m) rfl hl0 hsz6 ?_
             intro v8 w8 ho8 hb8 hc8 hat8
             obtain ⟨A8, c8, hv8⟩ := ho8.form
             rw [List.length_append, HLL3.out.1, List.length_singleton] at hv8
             subst hv8
             have X8 := X7.put0 hc8 ho8 hat8
             have bA8 : Box w8 w2.heap.size 54 #[.slice A0 k c0, .slice A1 k c1, .slice A6 (k + 1) c6] := (hc8.block _ bA7.lt (fun e => by have := (X7.row0.lt _ e).1; omega)).trans bA7
             have bR8 : Box w8 w.heap.size 54 #[.slice none 0 0, .slice none 0 0, .slice none 0 0] := (hc8.block _ bR7.lt (fun e => by have := (X7.row0.lt _ e).1; omega)).trans bR7
             have hrr8 := row_chg hrr7 hc8 (fun x hx e => own_ne hrr7 X7.row0 (by decide) x hx e)
             have hsz8 : w2.heap.size + 1 ≤ w8.heap.size := Nat.le_trans hsz6 (Nat.le_trans (by simp) hb8.size)
             have N0 := bA8.c0; have N1 := bA8.c1; have N2 := bA8.c2; have M0 := bA8.hot 0; have M1 := bA8.hot 1; have M2 := bA8.hot 2
             have ch9 := Chg.set (w := w8) ⟨w2.heap.size, 0, none⟩ (.slice A8 (k + 1) c8)
             have X9 := X8.chg ch9 (fun b hb => by have h3 : b = w2.heap.size := hb; omega)
             have bA9 : Box (w8.setCell ⟨w2.heap.size, 0, none⟩ (.slice A8 (k + 1) c8)) w2.heap.size 54 #[.slice A8 (k + 1) c8, .slice A1 k c1, .slice A6 (k + 1) c6] := bA8.set_ 0 (.slice A8 (k + 1) c8)
             have bR9 := bR8.far (p := ⟨w2.heap.size, 0, none⟩) (show w.heap.size ≠ w2.heap.size by omega) (.slice A8 (k + 1) c8)
             have hrr9 := row_chg hrr8 ch9 (fun z hz e => by have h3 : z = w2.heap.size := e; have := HLL.out z hz; omega)
             have hbw9 : Below w.heap.size w (w8.setCell ⟨w2.heap.size, 0, none⟩ (.slice A8 (k + 1) c8)) := Below.setCell (hbw7.trans (hb8.mono (by omega))) (by show w.heap.size ≤ w2.heap.size; omega) _)
          | (at_builtin
             refine wpList_pushXH rfl (.tmp 76) (.tmp 78) rfl (w8.setCell ⟨w2.heap.size, 0, none⟩ (.slice A8 (k + 1) c8)) w8.heap.size (by simp) (w2.heap.size + 1) (.slice A8 (k + 1) c8) (.slice A1 k c1) (.slice A6 (k + 1) c6) (.slice Av (tvX (gx (spl 10 l) i) m).length cv) _ (tvX (gx (spl 10 l) i) m) rfl rfl hsz8 X9 hl1 ?_
             intro v10 w10 ho10 hb10 hc10 hat10
             obtain ⟨_, _, A10, c10, _, _, _, hv10, _⟩ := ho10.form
             simp only [List.length_append, List.length_singleton, HLL3.out.2.1] at hv10
             subst hv10
             have hown1 := X9.old1
             have bA10 : Box w10 w2.heap.size 54 #[.slice A8 (k + 1) c8, .slice A1 k c1, .slice A6 (k + 1) c6] := (hc10.block _ bA9.lt (fun e => by have := hown1 _ e; omega)).trans bA9
             have bR10 : Box w10 w.heap.size 54 #[.slice none 0 0, .slice none 0 0, .slice none 0 0] := (hc10.block _ bR9.lt (fun e => by have := hown1 _ e; omega)).trans bR9
             have hrr10 := row_chg hrr9 hc10 (fun x hx e => par_own1 X9 hrr9 x hx e)
             have hsz10 : w2.heap.size + 1 ≤ w10.heap.size := Nat.le_trans hsz8 (Nat.le_trans (by simp) hb10.size)
             have U0 := bA10.c0; have U1 := bA10.c1; have U2 := bA10.c2; have V0 := bA10.hot 0; have V1 := bA10.hot 1; have V2 := bA10.hot 2))
        have hoE := ho10.chg (Chg.set (w := w10) ⟨w2.heap.size, 1, none⟩ (.slice A10 (k + 1) c10)) (fun b hb => by have h3 : b = w2.heap.size := hb; omega)
        have hUk : tgUp l m (k + 1) = ((tgUp l m k).1 ++ [tvO (gx (spl 10 l) i) m], (tgUp l m k).2.1 ++ [tvX (gx (spl 10 l) i) m], (tgUp l m k).2.2 ++ [tvP (gx (spl 10 l) i) m]) := by rw [← HIK.out]; exact HUp.out
        rw [← hUk] at hoE
        have hAk := Lib.hid (all_succ (p := fun j => tgG l m (j + 1) = true) HA.out (by rw [← HIK.out]; exact HGood.out))
        have bAE := bA10.set_ 1 (.slice A10 (k + 1) c10)
        have bRE := bR10.far (p := ⟨w2.heap.size, 1, none⟩) (show w.heap.size ≠ w2.heap.size by omega) (.slice A10 (k + 1) c10)
        have hrrE := row_chg hrr10 (Chg.set (w := w10) ⟨w2.heap.size, 1, none⟩ (.slice A10 (k + 1) c10)) (fun z hz e => by have h3 : z = w2.heap.size := e; have := HLL.out z hz; omega)
        have hbwE : Below w.heap.size w (w10.setCell ⟨w2.heap.size, 1, none⟩ (.slice A10 (k + 1) c10)) := Below.setCell (hbw9.trans (hb10.mono (by omega))) (by show w.heap.size ≤ w2.heap.size; omega) _
        have hszE : w2.heap.size + 1 ≤ (w10.setCell ⟨w2.heap.size, 1, none⟩ (.slice A10 (k + 1) c10)).heap.size := by simpa using hsz10
        have hk1 : k + 1 ≤ m := hlt
        have hi1' : i + 1 = (k + 1) + 1 := by rw [HIK.out]
        go_roundw
        case rel =>
          first
            | exact ⟨k + 1, i + 1, A8, c8, A10, c10, A6, c6, hk1, hi1', by go_num, hAk, hoE, bAE, bRE, hrrE, hbwE, by first | exact hszE | exact hsz10⟩
            | exact ⟨k + 1, i + 1, A8, c8, A10, c10, A6, c6, hk1, hi1', by go_num, hAk, hoE, bAE, bRE, hrrE, hbwE⟩
        case measure => have := HIK.out; simp [intOf]; omega
    · have hkm : k = m := by omega
      subst hkm
      have hnlt : ¬ (i : Int) ≤ (k : Int) := by omega
      have hkN : k < N := by have h6 := tgG_lt (HA.out (k - 1) (by omega)); rw [HN.out, show k - 1 + 1 = k by omega] at h6; exact h6
      have e1 : IntKind.i64.wrap ((k : Int) + 1) = (k : Int) + 1 := IntWalk.i64_in _ (by omega)
      clear hik
      have F0 := bR.hot 0; have F1 := bR.hot 1; have F2 := bR.hot 2
      have P0 := bR.c0; have P1 := bR.c1; have P2 := bR.c2
      by_cases hlen : k + 1 < lns.length
      · have hli2 : (k : Int) + 1 < (lns.length : Int) := by omega
        have EE := Lib.hid (HMore.out k HM.out (by omega) HA.out (.inl (by rw [HN.out]; have h5 := HLen.out; omega)))
        clear HA hlen
        cases bo with
        | true =>
          go_wp2
          have bx := (bR).set3 (.slice none 0 0) (.slice none 0 0) (.slice none 0 0)
          have R0 := bx.c0; have R1 := bx.c1; have R2 := bx.c2
          exact bodyPost_ret (v := .tuple #[.agg #[.slice none 0 0, .slice none 0 0, .slice none 0 0], .int .i64 ((k : Int) + 1)]) (by simp [results, Tryd.results38, go_sem, R0, R1, R2]) rfl ⟨_, _, _, by rw [HLs.out, EE.out.1], by rw [HLs.out, EE.out.2]; exact OPar.nil _ _, (Below.trans (hbr) ((Chg.set3 _ _ _ _ _).below (hbr).size (fun x hx => by have h3 : x = w.heap.size := hx; omega))).mono hB⟩
        | false =>
          go_wp2
          have bx := (bR).set3 (.slice none 0 0) (.slice none 0 0) (.slice none 0 0)
          have R0 := bx.c0; have R1 := bx.c1; have R2 := bx.c2
          exact bodyPost_ret (v := .tuple #[.agg #[.slice none 0 0, .slice none 0 0, .slice none 0 0], .int .i64 ((k : Int) + 1)]) (by simp [results, Tryd.results38, go_sem, R0, R1, R2]) rfl ⟨_, _, _, by rw [HLs.out, EE.out.1], by rw [HLs.out, EE.out.2]; exact OPar.nil _ _, (Below.trans (hbr) ((Chg.set3 _ _ _ _ _).below (hbr).size (fun x hx => by have h3 : x = w.heap.size := hx; omega))).mono hB⟩
      · have hli2 : ¬ (k : Int) + 1 < (lns.length : Int) := by omega
        cases bo with
        | true =>
          have EE := Lib.hid (HMore.out k HM.out (by omega) HA.out (.inr HBO.out))
          clear HA hlen
          go_wp2
          have bx := (bR).set3 (.slice none 0 0) (.slice none 0 0) (.slice none 0 0)
          have R0 := bx.c0; have R1 := bx.c1; have R2 := bx.c2
          exact bodyPost_ret (v := .tuple #[.agg #[.slice none 0 0, .slice none 0 0, .slice none 0 0], .int .i64 ((k : Int) + 1)]) (by simp [results, Tryd.results38, go_sem, R0, R1, R2]) rfl ⟨_, _, _, by rw [HLs.out, EE.out.1], by rw [HLs.out, EE.out.2]; exact OPar.nil _ _, (Below.trans (hbr) ((Chg.set3 _ _ _ _ _).below (hbr).size (fun x hx => by have h3 : x = w.heap.size := hx; omega))).mono hB⟩
        | false =>
          have EE := Lib.hid (HAll.out k HM.out (by omega) HA.out (by rw [HN.out]; have h5 := HLen.out; omega) HBO.out)
          have C0 := bA.c0; have C1 := bA.c1; have C2 := bA.c2
          clear HA hlen
          go_wp2
          have bx := bR.set3 (.slice A0 k c0) (.slice A1 k c1) (.slice A2 k c2)
          have R0 := bx.c0; have R1 := bx.c1; have R2 := bx.c2
          have chS := Chg.set3 wr w.heap.size (.slice A0 k c0) (.slice A1 k c1) (.slice A2 k c2)
          refine bodyPost_ret (v := .tuple #[.agg #[.slice A0 k c0, .slice A1 k c1, .slice A2 k c2], .int .i64 (-1)]) (by simp [results, Tryd.results38, go_sem, R0, R1, R2]) rfl ⟨_, _, _, by rw [HLs.out, EE.out.1], ?_, (hbr.trans (chS.below hbr.size (fun x hx => by have h3 : x = w.heap.size := hx; omega))).mono hB⟩
          rw [HLs.out, EE.out.2]
          exact (ho.chg chS (fun b hb => by have h3 : b = w.heap.size := hb; omega)).more (by omega)
end Go.Proofs.YtkhkdnmpbfmmeaaDoor
