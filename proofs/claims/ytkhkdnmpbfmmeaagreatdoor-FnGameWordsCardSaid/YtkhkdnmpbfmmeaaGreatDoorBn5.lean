/- Texts that the proof reaches: Txa, Bz, GmT, GwP, Same, Levels. -/
import Derived.Test.YtkhkdnmpbfmmeaaGreatDoorBn4
import Derived.Deep.RegionHeld3
import Derived.Deep.DeepCutAuto
import Derived.Laws.IdiomStrings
namespace Go.Proofs.YtkhkdnmpbfmmeaaGreatDoor
open Go.RowKit

/-- the words of line j; is it a good line -/
def anW (l : List UInt8) (j : Nat) : List (List UInt8) := spl 32 (gx (spl 10 l) j)
def anG (l : List UInt8) (j : Nat) : Bool := decide (j < 256 ∧ (anW l j).length = 2 ∧ 0 ≤ plr (gx (anW l j) 0) ∧ -1 ≤ unm (gx (anW l j) 1))
/-- the first bad line -/
def taF (l : List UInt8) : Int := firstI (fun j => !anG l j) (anN l)
def taE (l : List UInt8) : Int := if 3000 < l.length then -2 else if 0 ≤ taF l then taF l else if mor l = true then (anN l : Int) else -1
def taUp (l : List UInt8) (k : Nat) : TwoD := ((List.range k).map fun j => plr (gx (anW l j) 0), (List.range k).map fun j => unm (gx (anW l j) 1))
def taZ (l : List UInt8) : TwoD := if taE l = -1 then taUp l (anN l) else ([], [])
theorem taUp_succ (l : List UInt8) (k : Nat) : taUp l (k + 1) = ((taUp l k).1 ++ [plr (gx (anW l k) 0)], (taUp l k).2 ++ [unm (gx (anW l k) 1)]) := by
  unfold taUp
  rw [List.range_succ, List.map_append, List.map_append]
  rfl
theorem taUp_l1 (l : List UInt8) (k : Nat) : (taUp l k).1.length = k := by simp [taUp]
theorem taUp_l2 (l : List UInt8) (k : Nat) : (taUp l k).2.length = k := by simp [taUp]
theorem ta_long {l : List UInt8} (h : 3000 < l.length) : taE l = -2 ∧ taZ l = ([], []) := by
  have e : taE l = -2 := by unfold taE; rw [if_pos h]
  exact ⟨e, by unfold taZ; rw [e]; rfl⟩
theorem ta_bad {l : List UInt8} (h : l.length ≤ 3000) {k : Nat} (hk : k < anN l) (hall : ∀ j, j < k → anG l j = true) (hb : anG l k = false) : taE l = (k : Int) ∧ taZ l = ([], []) := by
  have f : taF l = (k : Int) := firstI_hit (by simp [hb]) (fun j hj => by simp [hall j hj]) hk
  have e : taE l = (k : Int) := by unfold taE; rw [if_neg (by omega), f, if_pos (by omega)]
  exact ⟨e, by unfold taZ; rw [e, if_neg (by omega)]⟩
theorem ta_more {l : List UInt8} (h : l.length ≤ 3000) (hall : ∀ j, j < anN l → anG l j = true) (hm : mor l = true) : taE l = (anN l : Int) ∧ taZ l = ([], []) := by
  have f : taF l = -1 := firstI_none (fun j hj => by simp [hall j hj])
  have e : taE l = (anN l : Int) := by unfold taE; rw [if_neg (by omega), f, if_neg (by omega), if_pos hm]
  exact ⟨e, by unfold taZ; rw [e, if_neg (by omega)]⟩
theorem ta_all {l : List UInt8} (h : l.length ≤ 3000) (hall : ∀ j, j < anN l → anG l j = true) (hm : mor l = false) : taE l = -1 ∧ taZ l = taUp l (anN l) := by
  have f : taF l = -1 := firstI_none (fun j hj => by simp [hall j hj])
  have e : taE l = -1 := by unfold taE; rw [if_neg (by omega), f, if_neg (by omega), hm]; rfl
  exact ⟨e, by unfold taZ; rw [if_pos e]⟩
theorem anG_no {l : List UInt8} {j : Nat} (h : ¬ (j < 256 ∧ (anW l j).length = 2 ∧ 0 ≤ plr (gx (anW l j) 0) ∧ -1 ≤ unm (gx (anW l j) 1))) : anG l j = false := decide_eq_false h
theorem chg2A (w : World) (b : Nat) (x0 x1 : Value) : Chg (fun x => x = b) w ((w.setCell ⟨b, 0, none⟩ x0).setCell ⟨b, 1, none⟩ x1) := (Chg.set (w := w) ⟨b, 0, none⟩ x0).trans (Chg.set ⟨b, 1, none⟩ x1) (fun _ h => h) (fun _ h => h)
theorem OT.push1 {w w' : World} {lo : Nat} {s0 s1 t0 : Value} {z : TwoD} {xs : List Int} (h : OT w lo s0 s1 z) (hc : Chg (fun b => s0.ownBlock = some b) w w') (h0 : OI 2 w' lo t0 xs) (hat : ∀ b, t0.ownBlock = some b → s0.ownBlock = some b ∨ w.heap.size ≤ b) : OT w' lo t0 s1 (xs, z.2) :=
  ⟨h0, h.2.1.chg hc (fun b hb hs => apart_not h.2.2 hs hb), apart_of fun b h1 h2 => (hat b h1).elim (fun e => apart_not h.2.2 e h2) (fun e => by have := (h.2.1.lt b h2).2; omega)⟩
theorem OT.push2 {w w' : World} {lo : Nat} {s0 s1 t1 : Value} {z : TwoD} {xs : List Int} (h : OT w lo s0 s1 z) (hc : Chg (fun b => s1.ownBlock = some b) w w') (h0 : OI 2 w' lo t1 xs) (hat : ∀ b, t1.ownBlock = some b → s1.ownBlock = some b ∨ w.heap.size ≤ b) : OT w' lo s0 t1 (z.1, xs) :=
  ⟨h.1.chg hc (fun b hb hs => apart_not h.2.2 hb hs), h0, apart_of fun b h1 h2 => (hat b h2).elim (fun e => apart_not h.2.2 h1 e) (fun e => by have := (h.1.lt b h1).2; omega)⟩
theorem OT.far {w : World} {lo : Nat} {s0 s1 : Value} {z : TwoD} {p : Addr} (h : OT w lo s0 s1 z) (hp : p.block < lo) (u : Value) : OT (w.setCell p u) lo s0 s1 z := ⟨h.1.far hp u, h.2.1.far hp u, h.2.2⟩
theorem OS.far {w : World} {lo : Nat} {v : Value} {xs : List ByteArray} {p : Addr} (h : OS w lo v xs) (hp : p.block < lo) (u : Value) : OS (w.setCell p u) lo v xs := ownsRow_setCell_below h hp u
theorem ta_stop {s : ByteArray} (h3 : s.data.toList.length ≤ 3000) {k : Nat} (hk : k < (impLn s).length) (hall : ∀ j, j < k → anG s.data.toList j = true) (hbad : k < anN s.data.toList → anG s.data.toList k = false) : taE s.data.toList = (k : Int) ∧ taZ s.data.toList = ([], []) := by
  by_cases h : k < anN s.data.toList
  · exact ta_bad h3 h hall (hbad h)
  · have hl := impLn_len s
    cases hm : mor s.data.toList with
    | true =>
      rw [hm, if_pos rfl] at hl
      obtain rfl : k = anN s.data.toList := by omega
      exact ta_more h3 hall hm
    | false =>
      rw [hm, if_neg (by decide)] at hl
      omega
theorem words_len {x : ByteArray} {l : List UInt8} {k : Nat} (h : x.data.toList = gx (spl 10 l) k) : (splT 32 x).length = (anW l k).length := by rw [splT_len, h]; rfl
theorem word_at {x : ByteArray} {l : List UInt8} {k : Nat} (h : x.data.toList = gx (spl 10 l) k) (i : Nat) : (gt (splT 32 x) i).data.toList = gx (anW l k) i := by rw [gtd, h]; rfl

set_option maxRecDepth 100000 in
set_option maxHeartbeats 3200000 in
theorem implTextAnswer (s : ByteArray) (w : World) (B : Nat) (hB : B ≤ w.heap.size) (hP : PN w) (hM : Max w) :
    Calls Tryz.prog 12 #[.string s] w fun e w' => ∃ t0 t1, e = .returned (.tuple #[.agg #[t0, t1], .int .i64 (taE s.data.toList)]) ∧ OT w' B t0 t1 (taZ s.data.toList) ∧ Below B w w' := by
  have HZ := Lib.hid (Lib.size_eq s)
  have bR := Box.new w 41 #[.slice none 0 0, .slice none 0 0]
  have hbR : Below w.heap.size w (w.alloc (.cells #[.slice none 0 0, .slice none 0 0] 41)) := below_alloc (Nat.le_refl _) (Below.refl _ _)
  by_cases h1 : 3000 < s.size
  · have E := Lib.hid (ta_long (l := s.data.toList) (by rw [← HZ.out]; exact h1))
    have F0 := bR.hot 0; have F1 := bR.hot 1
    have R0 := bR.cell 0; have R1 := bR.cell 1
    simp only [List.getElem?_toArray, List.getElem?_cons_zero, List.getElem?_cons_succ] at R0 R1
    go_enter Tryz.func12, Tryz.ntmps12
    go_wp2
    refine bodyPost_ret (v := .tuple #[.agg #[.slice none 0 0, .slice none 0 0], .int .i64 (-2)]) (by simp [results, Tryz.results12, go_sem, R0, R1]) rfl ⟨_, _, by rw [E.out.1], by rw [E.out.2]; exact OT.nil _ _, hbR.mono hB⟩
  replace h1 : s.size ≤ 3000 := by omega
  have hs4 : s.size ≤ 4000000 := by omega
  have HS := Lib.hid (show s.data.toList.length ≤ 3000 by rw [← HZ.out]; exact h1)
  have hbA : Below w.heap.size w ((w.alloc (.cells #[.slice none 0 0, .slice none 0 0] 41)).alloc (.cells #[.slice none 0 0, .slice none 0 0] 41)) := below_alloc (by simp) hbR
  go_enter Tryz.func12, Tryz.ntmps12
  go_wp2_with fail
  refine (implLines s _ _ (Nat.le_refl _) (hM.keep (keeps_below hbA)) hs4).mono ?_; rintro e w1 ⟨v1, rfl, ho1, hb1⟩
  obtain ⟨AL, cL, rfl⟩ := ho1.form
  have hsz1 : w.heap.size + 2 ≤ w1.heap.size := by have := hb1.size; simpa using this
  have bR1 : Box w1 w.heap.size 41 #[.slice none 0 0, .slice none 0 0] := (bR.alloc _).on hb1
  have bA1 : Box w1 (w.heap.size + 1) 41 #[.slice none 0 0, .slice none 0 0] := Box.on (w := (w.alloc (.cells #[.slice none 0 0, .slice none 0 0] 41)).alloc (.cells #[.slice none 0 0, .slice none 0 0] 41)) (Box.new' (by simp)) hb1
  have hw1 : Below w.heap.size w w1 := below_then hb1 hbA.size hbA
  replace ho1 := ho1.more (show w.heap.size + 2 ≤ _ by simp)
  have HGL := Lib.hid (fun k hk => gt_impLn (s := s) (k := k) hk)
  have HLS := Lib.hid (fun k => show (gt (impLn s) k).size ≤ 4000000 from by
    unfold impLn
    split
    · exact Nat.le_trans line_small hs4
    · by_cases hk : k < anN s.data.toList
      · rw [gt_take hk]; exact Nat.le_trans line_small hs4
      · unfold gt
        rw [List.getD_eq_getElem?_getD, List.getElem?_eq_none (by rw [List.length_take]; omega)]
        simp)
  have HLen := Lib.hid (impLn_len s)
  have HST := Lib.hid (fun k (hk : k < (impLn s).length) (ha : ∀ j, j < k → anG s.data.toList j = true) (hb : k < anN s.data.toList → anG s.data.toList k = false) => ta_stop HS.out hk ha hb)
  have HAL := Lib.hid (fun ha hm => ta_all HS.out ha hm)
  generalize impLn s = lns at *
  generalize hl : s.data.toList = l at *
  have HLs := Lib.hid hl
  clear hl
  have hcap := ho1.reads.cap
  have htop := ho1.reads.top
  clear hbA hbR bR hb1 h1
  obtain ⟨bo, hbo⟩ : ∃ b, mor l = b := ⟨_, rfl⟩
  rw [hbo] at HLen ⊢
  have HBO := Lib.hid hbo
  clear hbo
  go_wp2
  go_loopw [25] (fun i wr => ∃ (k : Nat) (A0 : Option Addr) (c0 : Nat) (A1 : Option Addr) (c1 : Nat), k ≤ lns.length ∧ k ≤ anN l ∧ i = .int .i64 k ∧ Hid (∀ j, j < k → anG l j = true) ∧ OT wr (w.heap.size + 2) (.slice A0 k c0) (.slice A1 k c1) (taUp l k) ∧ Box wr (w.heap.size + 1) 41 #[.slice A0 k c0, .slice A1 k c1] ∧ Box wr w.heap.size 41 #[.slice none 0 0, .slice none 0 0] ∧ OS wr (w.heap.size + 2) (.slice AL lns.length cL) lns ∧ Below w.heap.size w wr ∧ w.heap.size + 2 ≤ wr.heap.size) (fun i _ => lns.length - (intOf i).toNat)
  case atStart => exact ⟨0, none, 0, none, 0, Nat.zero_le _, Nat.zero_le _, rfl, Lib.hid (fun j hj => absurd hj (by omega)), OT.nil _ _, bA1, bR1, ho1, hw1, hsz1⟩
  case round =>
    clear bA1 bR1 ho1 hw1 hsz1
    obtain ⟨k, A0, c0, A1, c1, hk, hkN, rfl, HA, ho, bA, bR, hrr, hbr, hsz⟩ := hrel
    by_cases hlt : k < lns.length
    · obtain ⟨bl, ol, hAl, hcl⟩ := (OS.reads hrr).at_ hlt
      subst hAl
      have HG := Lib.hid (HGL.out k hlt)
      have hls := HLS.out k
      have EB := Lib.hid (fun hb => HST.out k hlt HA.out hb)
      generalize gt lns k = x at *
      go_wp2_with fail
      refine (stringsSplit x 32 _ (hM.keep (keeps_below hbr)) hls).mono ?_; rintro e w3 ⟨v3, rfl, ho3, hb3⟩
      obtain ⟨A3, c3, rfl⟩ := ho3.form
      have hR3 := ho3.reads
      have hc3 := hR3.cap; have ht3 := hR3.top
      have HW := Lib.hid (words_len HG.out)
      have HX := Lib.hid (word_at HG.out)
      replace ho := ho.below hb3
      replace bA := bA.on hb3
      replace bR := bR.on hb3
      replace hrr := hrr.below hb3
      have hsz3 : w.heap.size + 2 ≤ w3.heap.size := Nat.le_trans hsz hb3.size
      have hbw3 : Below w.heap.size w w3 := below_then hb3 hbr.size hbr
      have F0 := bR.hot 0; have F1 := bR.hot 1
      have P0 := bR.cell 0; have P1 := bR.cell 1
      simp only [List.getElem?_toArray, List.getElem?_cons_zero, List.getElem?_cons_succ] at P0 P1
      clear hcl hbr
      have e1 : IntKind.i64.wrap ((lns.length : Int) - 1) = (lns.length : Int) - 1 := IntWalk.i64_in _ (by omega)
      generalize (splT 32 x).length = nW at *
      by_cases h256 : 256 ≤ k
      · have h256i : (256 : Int) ≤ (k : Int) := by omega
        have EE := Lib.hid (EB.out (fun _ => anG_no (fun h => absurd h.1 (by omega))))
        clear HA
        go_wp2
        have bx := bR.set2 (.slice none 0 0) (.slice none 0 0)
        have R0 := bx.cell 0; have R1 := bx.cell 1
        simp only [List.getElem?_toArray, List.getElem?_cons_zero, List.getElem?_cons_succ] at R0 R1
        refine bodyPost_ret (v := .tuple #[.agg #[.slice none 0 0, .slice none 0 0], .int .i64 k]) (by simp [results, Tryz.results12, go_sem, R0, R1]) rfl ⟨_, _, by rw [HLs.out, EE.out.1], by rw [HLs.out, EE.out.2]; exact OT.nil _ _, (hbw3.trans ((chg2A _ _ _ _).below (by show w.heap.size ≤ w3.heap.size; omega) (fun x hx => by have h3 : x = w.heap.size := hx; omega))).mono hB⟩
      have h256' : k < 256 := by omega
      by_cases h2n : ¬ nW = 2
      · have h2 := h2n
        have h2i : ((nW : Int) != 2) = true := by rw [bne_iff_ne]; omega
        have EE := Lib.hid (EB.out (fun _ => anG_no (fun h => h2 (by rw [HW.out]; exact h.2.1))))
        clear HA
        go_wp2
        have bx := bR.set2 (.slice none 0 0) (.slice none 0 0)
        have R0 := bx.cell 0; have R1 := bx.cell 1
        simp only [List.getElem?_toArray, List.getElem?_cons_zero, List.getElem?_cons_succ] at R0 R1
        refine bodyPost_ret (v := .tuple #[.agg #[.slice none 0 0, .slice none 0 0], .int .i64 k]) (by simp [results, Tryz.results12, go_sem, R0, R1]) rfl ⟨_, _, by rw [HLs.out, EE.out.1], by rw [HLs.out, EE.out.2]; exact OT.nil _ _, (hbw3.trans ((chg2A _ _ _ _).below (by show w.heap.size ≤ w3.heap.size; omega) (fun x hx => by have h3 : x = w.heap.size := hx; omega))).mono hB⟩
      have h2 : nW = 2 := Decidable.of_not_not h2n
      clear h2n
      subst h2
      have hP3 := hP.keep (keeps_below hbw3)
      obtain ⟨b3, o3, hA3, hk0⟩ := hR3.at_ (show 0 < 2 by omega)
      subst hA3
      obtain ⟨b3', o3', hA3', hk1⟩ := hR3.at_ (show 1 < 2 by omega)
      injection hA3' with hA3'
      injection hA3' with hb3' ho3'
      subst hb3'; subst ho3'
      rw [Nat.add_zero] at hk0
      by_cases hlast : bo = true ∧ k + 1 = lns.length
      · obtain ⟨rfl, hl2⟩ := hlast
        have hli : ((k : Int) == (lns.length : Int) - 1) = true := by rw [beq_iff_eq]; omega
        have hnk : ¬ k < anN l := by have h3 := HLen.out; rw [if_pos rfl] at h3; omega
        have EE := Lib.hid (EB.out (fun h => absurd h hnk))
        clear HA
        go_wp2
        have bx := bR.set2 (.slice none 0 0) (.slice none 0 0)
        have R0 := bx.cell 0; have R1 := bx.cell 1
        simp only [List.getElem?_toArray, List.getElem?_cons_zero, List.getElem?_cons_succ] at R0 R1
        refine bodyPost_ret (v := .tuple #[.agg #[.slice none 0 0, .slice none 0 0], .int .i64 k]) (by simp [results, Tryz.results12, go_sem, R0, R1]) rfl ⟨_, _, by rw [HLs.out, EE.out.1], by rw [HLs.out, EE.out.2]; exact OT.nil _ _, (hbw3.trans ((chg2A _ _ _ _).below (by show w.heap.size ≤ w3.heap.size; omega) (fun x hx => by have h3 : x = w.heap.size := hx; omega))).mono hB⟩
      have HLast : ((k : Int) == (lns.length : Int) - 1) = decide (k + 1 = lns.length) := by rw [Bool.eq_iff_iff, beq_iff_eq, decide_eq_true_iff]; omega
      have hkA : k < anN l := by
        have h3 := HLen.out
        cases bo with
        | true => have h4 : k + 1 ≠ lns.length := fun e => hlast ⟨rfl, e⟩; rw [if_pos rfl] at h3; omega
        | false => rw [if_neg (by decide)] at h3; omega
      have HKA := Lib.hid hkA
      have HNL : Hid (¬ (bo = true ∧ k + 1 = lns.length)) := Lib.hid hlast
      clear hkA hlast
      have hcont : (decide (k + 1 = lns.length) && bo) = false := by
        rw [Bool.and_eq_false_iff]
        by_cases e : bo = true
        · exact .inl (decide_eq_false fun h => HNL.out ⟨e, h⟩)
        · exact .inr (by simpa using e)
      by_cases hl2 : k + 1 = lns.length
      · obtain rfl : bo = false := by cases bo with
          | true => exact absurd ⟨rfl, hl2⟩ HNL.out
          | false => rfl
        have hli : ((k : Int) == (lns.length : Int) - 1) = true := by rw [HLast]; exact decide_eq_true hl2
        clear HLast hcont hl2
        by_cases hpl : 0 ≤ plr (gx (anW l k) 0)
        · by_cases hun : -1 ≤ unm (gx (anW l k) 1)
          · have HPL := Lib.hid hpl; have HUN := Lib.hid hun
            have HRV := Lib.hid (rev_unm hun)
            have HRB := Lib.hid (show reb (gx (anW l k) 1) = true from decide_eq_true hun)
            have HGood : Hid (anG l k = true) := Lib.hid (decide_eq_true ⟨h256', HW.out.symm, HPL.out, HUN.out⟩)
            have HUp := Lib.hid (taUp_succ l k)
            have HT1 := Lib.hid (taUp_l1 l k); have HT2 := Lib.hid (taUp_l2 l k)
            have hpl' : ¬ plr (gx (anW l k) 0) < 0 := by omega
            clear hpl hun
            have C0 := bA.cell 0; have C1 := bA.cell 1
            have G0 := bA.hot 0; have G1 := bA.hot 1
            simp only [List.getElem?_toArray, List.getElem?_cons_zero, List.getElem?_cons_succ] at C0 C1
            have hll1 : (taUp l k).1.length ≤ 4194304 := by rw [HT1.out]; omega
            have hll2 : (taUp l k).2.length ≤ 4194304 := by rw [HT2.out]; omega
            go_wp2_with (first
              | (go_at_call 33; refine (playerOf _ _ (by exact hP3)).mono ?_; rintro e w4 ⟨rfl, q4, rfl⟩; rw [HX.out 0])
              | (go_at_call 34; refine (readEntry _ _).mono ?_; rintro e w5 ⟨rfl, q5, rfl⟩; rw [HX.out 1, HRV.out, HRB.out])
              | (at_builtin
                 refine wpList_pushI rfl (.tmp 72) (.tmp 74) rfl (w3.drewN (q4 + q5)) (w.heap.size + 2) (.slice A0 k c0) (taUp l k).1 rfl ho.1 (plr (gx (anW l k) 0)) rfl hll1 hsz3 ?_
                 intro v6 w6 ho6 hb6 hc6 hat6
                 obtain ⟨A6, c6, hv6⟩ := ho6.form
                 rw [List.length_append, HT1.out, List.length_singleton] at hv6
                 subst hv6
                 have hoA := OT.push1 (w := w3.drewN (q4 + q5)) ho hc6 ho6 hat6
                 have bA6 : Box w6 (w.heap.size + 1) 41 #[.slice A0 k c0, .slice A1 k c1] := (hc6.block _ bA.lt (fun e => by have := (ho.1.lt _ e).1; omega)).trans bA
                 have bR6 : Box w6 w.heap.size 41 #[.slice none 0 0, .slice none 0 0] := (hc6.block _ bR.lt (fun e => by have := (ho.1.lt _ e).1; omega)).trans bR
                 have hrr6 := row_chg (w := w3.drewN (q4 + q5)) hrr hc6 (fun x hx e => own_ne hrr ho.1 (by decide) x hx e)
                 have hsz6 : w.heap.size + 2 ≤ w6.heap.size := Nat.le_trans hsz3 hb6.size
                 have D0 := bA6.cell 0; have D1 := bA6.cell 1
                 have K0 := bA6.hot 0; have K1 := bA6.hot 1
                 simp only [List.getElem?_toArray, List.getElem?_cons_zero, List.getElem?_cons_succ] at D0 D1
                 have hoB := hoA.far (p := ⟨w.heap.size + 1, 0, none⟩) (by show w.heap.size + 1 < w.heap.size + 2; omega) (.slice A6 (k + 1) c6)
                 have bA7 : Box (w6.setCell ⟨w.heap.size + 1, 0, none⟩ (.slice A6 (k + 1) c6)) (w.heap.size + 1) 41 #[.slice A6 (k + 1) c6, .slice A1 k c1] := bA6.set_ 0 (.slice A6 (k + 1) c6)
                 have bR7 : Box (w6.setCell ⟨w.heap.size + 1, 0, none⟩ (.slice A6 (k + 1) c6)) w.heap.size 41 #[.slice none 0 0, .slice none 0 0] := bR6.far (by simp) _
                 have hrr7 := OS.far (p := ⟨w.heap.size + 1, 0, none⟩) hrr6 (by show w.heap.size + 1 < w.heap.size + 2; omega) (.slice A6 (k + 1) c6)
                 have hbw6 : Below w.heap.size w (w6.setCell ⟨w.heap.size + 1, 0, none⟩ (.slice A6 (k + 1) c6)) := Below.setCell ((below_drewN hbw3 (q4 + q5)).trans (hb6.mono (by omega))) (by show w.heap.size ≤ w.heap.size + 1; omega) _)
              | (at_builtin
                 refine wpList_pushHT rfl (.tmp 78) (.tmp 80) rfl (w6.setCell ⟨w.heap.size + 1, 0, none⟩ (.slice A6 (k + 1) c6)) w6.heap.size (by simp) (w.heap.size + 2) (.slice A1 k c1) (taUp l k).2 rfl hoB.2.1 (unm (gx (anW l k) 1)) rfl hll2 hsz6 ?_
                 intro v8 w8 ho8 hb8 hc8 hat8
                 obtain ⟨A8, c8, hv8⟩ := ho8.form
                 rw [List.length_append, HT2.out, List.length_singleton] at hv8
                 subst hv8
                 have hoC := OT.push2 hoB hc8 ho8 hat8
                 have bA8 : Box w8 (w.heap.size + 1) 41 #[.slice A6 (k + 1) c6, .slice A1 k c1] := (hc8.block _ bA7.lt (fun e => by have := (hoB.2.1.lt _ e).1; omega)).trans bA7
                 have bR8 : Box w8 w.heap.size 41 #[.slice none 0 0, .slice none 0 0] := (hc8.block _ bR7.lt (fun e => by have := (hoB.2.1.lt _ e).1; omega)).trans bR7
                 have hrr8 := row_chg hrr7 hc8 (fun x hx e => own_ne hrr7 hoB.2.1 (by decide) x hx e)
                 have hsz8 : w.heap.size + 2 ≤ w8.heap.size := Nat.le_trans hsz6 (Nat.le_trans (by simp) hb8.size)
                 have E0 := bA8.cell 0; have E1 := bA8.cell 1
                 have L0 := bA8.hot 0; have L1 := bA8.hot 1
                 simp only [List.getElem?_toArray, List.getElem?_cons_zero, List.getElem?_cons_succ] at E0 E1))
            go_roundw
            case rel =>
              have hoD := hoC.far (p := ⟨w.heap.size + 1, 1, none⟩) (by show w.heap.size + 1 < w.heap.size + 2; omega) (.slice A8 (k + 1) c8)
              rw [← HUp.out] at hoD
              have hkA1 : k + 1 ≤ anN l := HKA.out
              have hB8 := hb8.mono (show w.heap.size ≤ w.heap.size + 2 by omega)
              first
                | exact ⟨k + 1, A6, c6, A8, c8, by omega, hkA1, by go_num, Lib.hid (all_succ HA.out HGood.out), hoD, bA8.set_ 1 (.slice A8 (k + 1) c8), bR8.far (show w.heap.size ≠ w.heap.size + 1 by omega) _, OS.far (p := ⟨w.heap.size + 1, 1, none⟩) hrr8 (by show w.heap.size + 1 < w.heap.size + 2; omega) _, Below.setCell (p := ⟨w.heap.size + 1, 1, none⟩) (hbw6.trans hB8) (by show w.heap.size ≤ w.heap.size + 1; omega) _, by simpa using hsz8⟩
                | exact ⟨_, _, _, _, _, _, _, .int .i64 ((k : Int) + 1), ⟨k + 1, by omega, hkA1, by go_num, Lib.hid (all_succ HA.out HGood.out), A6, c6, A8, c8, hoD, bA8.set_ 1 (.slice A8 (k + 1) c8), bR8.far (show w.heap.size ≠ w.heap.size + 1 by omega) _, OS.far (p := ⟨w.heap.size + 1, 1, none⟩) hrr8 (by show w.heap.size + 1 < w.heap.size + 2; omega) _, Below.setCell (p := ⟨w.heap.size + 1, 1, none⟩) (hbw6.trans hB8) (by show w.heap.size ≤ w.heap.size + 1; omega) _⟩, rfl, rfl, rfl, rfl, rfl, rfl, rfl, rfl⟩
            case measure => simp [intOf]; omega
          · have HRB := Lib.hid (show reb (gx (anW l k) 1) = false from decide_eq_false hun)
            have hpl' : ¬ plr (gx (anW l k) 0) < 0 := by omega
            have EE := Lib.hid (EB.out (fun _ => anG_no (fun h => hun h.2.2.2)))
            clear HA
            go_wp2_with (first
              | (go_at_call 33; refine (playerOf _ _ (by exact hP3)).mono ?_; rintro e w4 ⟨rfl, q4, rfl⟩; rw [HX.out 0])
              | (go_at_call 34; refine (readEntry _ _).mono ?_; rintro e w5 ⟨rfl, q5, rfl⟩; rw [HX.out 1, HRB.out]))
            have bx := (bR.drewN (q4 + q5)).set2 (.slice none 0 0) (.slice none 0 0)
            have R0 := bx.cell 0; have R1 := bx.cell 1
            simp only [List.getElem?_toArray, List.getElem?_cons_zero, List.getElem?_cons_succ] at R0 R1
            refine bodyPost_ret (v := .tuple #[.agg #[.slice none 0 0, .slice none 0 0], .int .i64 k]) (by simp [results, Tryz.results12, go_sem, R0, R1]) rfl ⟨_, _, by rw [HLs.out, EE.out.1], by rw [HLs.out, EE.out.2]; exact OT.nil _ _, ((below_drewN hbw3 (q4 + q5)).trans ((chg2A _ _ _ _).below (by show w.heap.size ≤ w3.heap.size; omega) (fun x hx => by have h3 : x = w.heap.size := hx; omega))).mono hB⟩
        · have hpl' : plr (gx (anW l k) 0) < 0 := by omega
          have EE := Lib.hid (EB.out (fun _ => anG_no (fun h => hpl h.2.2.1)))
          clear HA
          go_wp2_with (first
            | (go_at_call 33; refine (playerOf _ _ (by exact hP3)).mono ?_; rintro e w4 ⟨rfl, q4, rfl⟩; rw [HX.out 0])
            | (go_at_call 34; refine (readEntry _ _).mono ?_; rintro e w5 ⟨rfl, q5, rfl⟩; rw [HX.out 1]))
          have bx := (bR.drewN (q4 + q5)).set2 (.slice none 0 0) (.slice none 0 0)
          have R0 := bx.cell 0; have R1 := bx.cell 1
          simp only [List.getElem?_toArray, List.getElem?_cons_zero, List.getElem?_cons_succ] at R0 R1
          refine bodyPost_ret (v := .tuple #[.agg #[.slice none 0 0, .slice none 0 0], .int .i64 k]) (by simp [results, Tryz.results12, go_sem, R0, R1]) rfl ⟨_, _, by rw [HLs.out, EE.out.1], by rw [HLs.out, EE.out.2]; exact OT.nil _ _, ((below_drewN hbw3 (q4 + q5)).trans ((chg2A _ _ _ _).below (by show w.heap.size ≤ w3.heap.size; omega) (fun x hx => by have h3 : x = w.heap.size := hx; omega))).mono hB⟩
      · have hli : ((k : Int) == (lns.length : Int) - 1) = false := by rw [HLast]; exact decide_eq_false hl2
        clear HLast hcont hl2
        by_cases hpl : 0 ≤ plr (gx (anW l k) 0)
        · by_cases hun : -1 ≤ unm (gx (anW l k) 1)
          · have HPL := Lib.hid hpl; have HUN := Lib.hid hun
            have HRV := Lib.hid (rev_unm hun)
            have HRB := Lib.hid (show reb (gx (anW l k) 1) = true from decide_eq_true hun)
            have HGood : Hid (anG l k = true) := Lib.hid (decide_eq_true ⟨h256', HW.out.symm, HPL.out, HUN.out⟩)
            have HUp := Lib.hid (taUp_succ l k)
            have HT1 := Lib.hid (taUp_l1 l k); have HT2 := Lib.hid (taUp_l2 l k)
            have hpl' : ¬ plr (gx (anW l k) 0) < 0 := by omega
            clear hpl hun
            have C0 := bA.cell 0; have C1 := bA.cell 1
            have G0 := bA.hot 0; have G1 := bA.hot 1
            simp only [List.getElem?_toArray, List.getElem?_cons_zero, List.getElem?_cons_succ] at C0 C1
            have hll1 : (taUp l k).1.length ≤ 4194304 := by rw [HT1.out]; omega
            have hll2 : (taUp l k).2.length ≤ 4194304 := by rw [HT2.out]; omega
            go_wp2_with (first
              | (go_at_call 33; refine (playerOf _ _ (by exact hP3)).mono ?_; rintro e w4 ⟨rfl, q4, rfl⟩; rw [HX.out 0])
              | (go_at_call 34; refine (readEntry _ _).mono ?_; rintro e w5 ⟨rfl, q5, rfl⟩; rw [HX.out 1, HRV.out, HRB.out])
              | (at_builtin
                 refine wpList_pushI rfl (.tmp 72) (.tmp 74) rfl (w3.drewN (q4 + q5)) (w.heap.size + 2) (.slice A0 k c0) (taUp l k).1 rfl ho.1 (plr (gx (anW l k) 0)) rfl hll1 hsz3 ?_
                 intro v6 w6 ho6 hb6 hc6 hat6
                 obtain ⟨A6, c6, hv6⟩ := ho6.form
                 rw [List.length_append, HT1.out, List.length_singleton] at hv6
                 subst hv6
                 have hoA := OT.push1 (w := w3.drewN (q4 + q5)) ho hc6 ho6 hat6
                 have bA6 : Box w6 (w.heap.size + 1) 41 #[.slice A0 k c0, .slice A1 k c1] := (hc6.block _ bA.lt (fun e => by have := (ho.1.lt _ e).1; omega)).trans bA
                 have bR6 : Box w6 w.heap.size 41 #[.slice none 0 0, .slice none 0 0] := (hc6.block _ bR.lt (fun e => by have := (ho.1.lt _ e).1; omega)).trans bR
                 have hrr6 := row_chg (w := w3.drewN (q4 + q5)) hrr hc6 (fun x hx e => own_ne hrr ho.1 (by decide) x hx e)
                 have hsz6 : w.heap.size + 2 ≤ w6.heap.size := Nat.le_trans hsz3 hb6.size
                 have D0 := bA6.cell 0; have D1 := bA6.cell 1
                 have K0 := bA6.hot 0; have K1 := bA6.hot 1
                 simp only [List.getElem?_toArray, List.getElem?_cons_zero, List.getElem?_cons_succ] at D0 D1
                 have hoB := hoA.far (p := ⟨w.heap.size + 1, 0, none⟩) (by show w.heap.size + 1 < w.heap.size + 2; omega) (.slice A6 (k + 1) c6)
                 have bA7 : Box (w6.setCell ⟨w.heap.size + 1, 0, none⟩ (.slice A6 (k + 1) c6)) (w.heap.size + 1) 41 #[.slice A6 (k + 1) c6, .slice A1 k c1] := bA6.set_ 0 (.slice A6 (k + 1) c6)
                 have bR7 : Box (w6.setCell ⟨w.heap.size + 1, 0, none⟩ (.slice A6 (k + 1) c6)) w.heap.size 41 #[.slice none 0 0, .slice none 0 0] := bR6.far (by simp) _
                 have hrr7 := OS.far (p := ⟨w.heap.size + 1, 0, none⟩) hrr6 (by show w.heap.size + 1 < w.heap.size + 2; omega) (.slice A6 (k + 1) c6)
                 have hbw6 : Below w.heap.size w (w6.setCell ⟨w.heap.size + 1, 0, none⟩ (.slice A6 (k + 1) c6)) := Below.setCell ((below_drewN hbw3 (q4 + q5)).trans (hb6.mono (by omega))) (by show w.heap.size ≤ w.heap.size + 1; omega) _)
              | (at_builtin
                 refine wpList_pushHT rfl (.tmp 78) (.tmp 80) rfl (w6.setCell ⟨w.heap.size + 1, 0, none⟩ (.slice A6 (k + 1) c6)) w6.heap.size (by simp) (w.heap.size + 2) (.slice A1 k c1) (taUp l k).2 rfl hoB.2.1 (unm (gx (anW l k) 1)) rfl hll2 hsz6 ?_
                 intro v8 w8 ho8 hb8 hc8 hat8
                 obtain ⟨A8, c8, hv8⟩ := ho8.form
                 rw [List.length_append, HT2.out, List.length_singleton] at hv8
                 subst hv8
                 have hoC := OT.push2 hoB hc8 ho8 hat8
                 have bA8 : Box w8 (w.heap.size + 1) 41 #[.slice A6 (k + 1) c6, .slice A1 k c1] := (hc8.block _ bA7.lt (fun e => by have := (hoB.2.1.lt _ e).1; omega)).trans bA7
                 have bR8 : Box w8 w.heap.size 41 #[.slice none 0 0, .slice none 0 0] := (hc8.block _ bR7.lt (fun e => by have := (hoB.2.1.lt _ e).1; omega)).trans bR7
                 have hrr8 := row_chg hrr7 hc8 (fun x hx e => own_ne hrr7 hoB.2.1 (by decide) x hx e)
                 have hsz8 : w.heap.size + 2 ≤ w8.heap.size := Nat.le_trans hsz6 (Nat.le_trans (by simp) hb8.size)
                 have E0 := bA8.cell 0; have E1 := bA8.cell 1
                 have L0 := bA8.hot 0; have L1 := bA8.hot 1
                 simp only [List.getElem?_toArray, List.getElem?_cons_zero, List.getElem?_cons_succ] at E0 E1))
            go_roundw
            case rel =>
              have hoD := hoC.far (p := ⟨w.heap.size + 1, 1, none⟩) (by show w.heap.size + 1 < w.heap.size + 2; omega) (.slice A8 (k + 1) c8)
              rw [← HUp.out] at hoD
              have hkA1 : k + 1 ≤ anN l := HKA.out
              have hB8 := hb8.mono (show w.heap.size ≤ w.heap.size + 2 by omega)
              first
                | exact ⟨k + 1, A6, c6, A8, c8, by omega, hkA1, by go_num, Lib.hid (all_succ HA.out HGood.out), hoD, bA8.set_ 1 (.slice A8 (k + 1) c8), bR8.far (show w.heap.size ≠ w.heap.size + 1 by omega) _, OS.far (p := ⟨w.heap.size + 1, 1, none⟩) hrr8 (by show w.heap.size + 1 < w.heap.size + 2; omega) _, Below.setCell (p := ⟨w.heap.size + 1, 1, none⟩) (hbw6.trans hB8) (by show w.heap.size ≤ w.heap.size + 1; omega) _, by simpa using hsz8⟩
                | exact ⟨_, _, _, _, _, _, _, .int .i64 ((k : Int) + 1), ⟨k + 1, by omega, hkA1, by go_num, Lib.hid (all_succ HA.out HGood.out), A6, c6, A8, c8, hoD, bA8.set_ 1 (.slice A8 (k + 1) c8), bR8.far (show w.heap.size ≠ w.heap.size + 1 by omega) _, OS.far (p := ⟨w.heap.size + 1, 1, none⟩) hrr8 (by show w.heap.size + 1 < w.heap.size + 2; omega) _, Below.setCell (p := ⟨w.heap.size + 1, 1, none⟩) (hbw6.trans hB8) (by show w.heap.size ≤ w.heap.size + 1; omega) _⟩, rfl, rfl, rfl, rfl, rfl, rfl, rfl, rfl⟩
            case measure => simp [intOf]; omega
          · have HRB := Lib.hid (show reb (gx (anW l k) 1) = false from decide_eq_false hun)
            have hpl' : ¬ plr (gx (anW l k) 0) < 0 := by omega
            have EE := Lib.hid (EB.out (fun _ => anG_no (fun h => hun h.2.2.2)))
            clear HA
            go_wp2_with (first
              | (go_at_call 33; refine (playerOf _ _ (by exact hP3)).mono ?_; rintro e w4 ⟨rfl, q4, rfl⟩; rw [HX.out 0])
              | (go_at_call 34; refine (readEntry _ _).mono ?_; rintro e w5 ⟨rfl, q5, rfl⟩; rw [HX.out 1, HRB.out]))
            have bx := (bR.drewN (q4 + q5)).set2 (.slice none 0 0) (.slice none 0 0)
            have R0 := bx.cell 0; have R1 := bx.cell 1
            simp only [List.getElem?_toArray, List.getElem?_cons_zero, List.getElem?_cons_succ] at R0 R1
            refine bodyPost_ret (v := .tuple #[.agg #[.slice none 0 0, .slice none 0 0], .int .i64 k]) (by simp [results, Tryz.results12, go_sem, R0, R1]) rfl ⟨_, _, by rw [HLs.out, EE.out.1], by rw [HLs.out, EE.out.2]; exact OT.nil _ _, ((below_drewN hbw3 (q4 + q5)).trans ((chg2A _ _ _ _).below (by show w.heap.size ≤ w3.heap.size; omega) (fun x hx => by have h3 : x = w.heap.size := hx; omega))).mono hB⟩
        · have hpl' : plr (gx (anW l k) 0) < 0 := by omega
          have EE := Lib.hid (EB.out (fun _ => anG_no (fun h => hpl h.2.2.1)))
          clear HA
          go_wp2_with (first
            | (go_at_call 33; refine (playerOf _ _ (by exact hP3)).mono ?_; rintro e w4 ⟨rfl, q4, rfl⟩; rw [HX.out 0])
            | (go_at_call 34; refine (readEntry _ _).mono ?_; rintro e w5 ⟨rfl, q5, rfl⟩; rw [HX.out 1]))
          have bx := (bR.drewN (q4 + q5)).set2 (.slice none 0 0) (.slice none 0 0)
          have R0 := bx.cell 0; have R1 := bx.cell 1
          simp only [List.getElem?_toArray, List.getElem?_cons_zero, List.getElem?_cons_succ] at R0 R1
          refine bodyPost_ret (v := .tuple #[.agg #[.slice none 0 0, .slice none 0 0], .int .i64 k]) (by simp [results, Tryz.results12, go_sem, R0, R1]) rfl ⟨_, _, by rw [HLs.out, EE.out.1], by rw [HLs.out, EE.out.2]; exact OT.nil _ _, ((below_drewN hbw3 (q4 + q5)).trans ((chg2A _ _ _ _).below (by show w.heap.size ≤ w3.heap.size; omega) (fun x hx => by have h3 : x = w.heap.size := hx; omega))).mono hB⟩
    · obtain rfl : k = lns.length := by omega
      have hbo : bo = false := by
        have h3 := HLen.out
        cases bo with
        | true => rw [if_pos rfl] at h3; omega
        | false => rfl
      subst hbo
      have hkn : lns.length = anN l := by have h3 := HLen.out; rw [if_neg (by decide)] at h3; exact h3
      have EE := Lib.hid (HAL.out (by rw [← hkn]; exact HA.out) HBO.out)
      have F0 := bR.hot 0; have F1 := bR.hot 1
      have P0 := bR.cell 0; have P1 := bR.cell 1
      have C0 := bA.cell 0; have C1 := bA.cell 1
      simp only [List.getElem?_toArray, List.getElem?_cons_zero, List.getElem?_cons_succ] at P0 P1 C0 C1
      have HKN := Lib.hid hkn
      clear hkn HA hk hkN
      go_wp2
      have bx := bR.set2 (.slice A0 lns.length c0) (.slice A1 lns.length c1)
      have R0 := bx.cell 0; have R1 := bx.cell 1
      simp only [List.getElem?_toArray, List.getElem?_cons_zero, List.getElem?_cons_succ] at R0 R1
      refine bodyPost_ret (v := .tuple #[.agg #[.slice A0 lns.length c0, .slice A1 lns.length c1], .int .i64 (-1)]) (by simp [results, Tryz.results12, go_sem, R0, R1]) rfl ⟨_, _, by rw [HLs.out, EE.out.1], ?_, (hbr.trans ((chg2A _ _ _ _).below hbr.size (fun x hx => by have h3 : x = w.heap.size := hx; omega))).mono hB⟩
      rw [HLs.out, EE.out.2, ← HKN.out]
      exact ((ho.far (p := ⟨w.heap.size, 0, none⟩) (by show w.heap.size < w.heap.size + 2; omega) _).far (p := ⟨w.heap.size, 1, none⟩) (by show w.heap.size < w.heap.size + 2; omega) _).more (by omega)

end Go.Proofs.YtkhkdnmpbfmmeaaGreatDoor
namespace Go.Proofs.YtkhkdnmpbfmmeaaGreatDoor
open Go.RowKit

/-- a row of bytes of the call's own, perhaps frozen behind its cells -/
def OBz (w : World) (lo : Nat) (v : Value) (l : List UInt8) : Prop :=
  ∃ g cap cur fr, v = .slice (some ⟨g, 0, none⟩) l.length cap ∧ lo ≤ g ∧ w.heap[g]? = some (.cells cur 5 fr) ∧ l.length ≤ cap ∧ cap ≤ maxLen ∧ cur.size = cap ∧ (fr = (0, 0) ∨ cap ≤ fr.1) ∧ cur.toList.take l.length = l.map (fun b => Value.int .u8 b.toNat)
section
variable {w w' : World} {lo : Nat} {v : Value} {l : List UInt8}
theorem OBz.below (h : OBz w lo v l) (hb : Below w.heap.size w w') : OBz w' lo v l := by
  obtain ⟨g, cap, cur, fr, h1, h2, h3, h4⟩ := h
  exact ⟨g, cap, cur, fr, h1, h2, (hb.block g (Array.getElem?_eq_some_iff.1 h3).1).trans h3, h4⟩
theorem OBz.lt (h : OBz w lo v l) : ∀ k, v.ownBlock = some k → lo ≤ k ∧ k < w.heap.size := by
  obtain ⟨g, cap, cur, fr, rfl, h2, h3, h4⟩ := h
  intro k hk
  simp [Value.ownBlock] at hk
  subst hk
  exact ⟨h2, (Array.getElem?_eq_some_iff.1 h3).1⟩
theorem OBz.form (h : OBz w lo v l) : ∃ A c, v = .slice A l.length c := by
  obtain ⟨g, cap, cur, fr, rfl, _⟩ := h
  exact ⟨_, _, rfl⟩
theorem OBz.cellAt {g c : Nat} (h : OBz w lo (.slice (some ⟨g, 0, none⟩) l.length c) l) {j : Nat} (hj : j < l.length) : w.cell? ⟨g, j, none⟩ = some (.int .u8 (l[j].toNat : Int)) := by
  obtain ⟨g', cap, cur, fr, e, h2, h3, h4, h5, h6, h7, h8⟩ := h
  injection e with e1 e2 e3
  injection e1 with e1
  injection e1 with e1 _ _
  subst e1
  rw [cell_of_row w g j cur _ fr h3]
  have := congrArg (fun x => x[j]?) h8
  simp only [List.getElem?_take, hj, if_true, List.getElem?_map, List.getElem?_eq_getElem hj, Option.map_some] at this
  simpa using this
end
end Go.Proofs.YtkhkdnmpbfmmeaaGreatDoor
namespace Go.Proofs.YtkhkdnmpbfmmeaaGreatDoor
open Go.RowKit

/-- the text of a game as far as its first k vertices; the whole of it -/
def gmUp (g : ParD) : Nat → List UInt8
  | 0 => gmB ++ Lib.decDigits g.1.length ++ [10]
  | k + 1 => gmUp g k ++ (vtx g k ++ [10])
noncomputable def gmT (g : ParD) : List UInt8 := if parB g = true then gmUp g g.1.length else []
theorem gmT_no {g : ParD} (h : parB g = false) : gmT g = [] := by unfold gmT; rw [h]; rfl
theorem gmT_yes {g : ParD} (h : parB g = true) : gmT g = gmUp g g.1.length := if_pos h
theorem vtx_len {g : ParD} (h : finePar g) {v : Nat} (hv : v < g.1.length) : (vtx g v).length ≤ 174 := by
  obtain ⟨⟨f1, f2, f3, f4⟩, f5, f6⟩ := h
  obtain ⟨-, ⟨x0, x1⟩, xs⟩ := f4 v hv
  obtain ⟨p0, p1⟩ := f6 v (by omega)
  have hu : ∀ u ∈ gl g.2.1 v, 0 ≤ u ∧ u < 256 := fun u hu => by have := set_all xs u hu; omega
  have h1 := tlx_len hu (gl g.2.1 v).length (Nat.le_refl _)
  rw [List.take_length] at h1
  have h2 := dec_len9 (u := (gi g.2.2 v).toNat) (by omega)
  have h3 := wo_len (gi g.1 v)
  rw [vtx_eq x0, List.length_append, List.length_append, List.length_append, List.length_singleton]
  omega
theorem gmUp_len {g : ParD} (h : finePar g) : ∀ k, k ≤ g.1.length → (gmUp g k).length ≤ 15 + 175 * k
  | 0, _ => by
    have := dec_len9 (u := g.1.length) (by have := h.1.2.1; omega)
    unfold gmUp
    rw [List.length_append, List.length_append, List.length_singleton, show gmB.length = 5 from rfl]
    omega
  | k + 1, hk => by
    have h1 := gmUp_len h k (by omega)
    have h2 := vtx_len h (v := k) (by omega)
    unfold gmUp
    rw [List.length_append, List.length_append, List.length_singleton]
    omega
theorem gm_head (n : Nat) : ({ data := #[103, 97, 109, 101, 32] } : ByteArray) ++ tx (Lib.decDigits n) ++ { data := #[10] } = tx (gmB ++ Lib.decDigits n ++ [10]) := by
  show tx gmB ++ tx _ ++ tx [10] = _
  rw [tx_app, tx_app]
set_option maxRecDepth 100000 in
set_option maxHeartbeats 1600000 in
theorem implGameText (s0 s1 s2 : Value) (g : ParD) (w : World) (B : Nat) (hB : B ≤ w.heap.size) (hT : Tab w) (hP : PN w) (ha : RPv w s0 s1 s2 g) :
    Calls Tryz.prog 7 #[.agg #[s0, s1, s2]] w fun e w' => e = .returned (.string (tx (gmT g))) ∧ Below B w w' := by
  obtain ⟨A0, n0, c0, A1, n1, c1, A2, n2, c2, rfl, rfl, rfl⟩ := ha.form
  have b1 := ha.ri.cap; have b2 := ha.ri.top; have b5 := ha.rp.cap; have b6 := ha.rp.top
  have HL := Lib.hid ha.ri.len; have HPl := Lib.hid ha.rp.len
  have bx := Box.new w 32 #[.slice A0 n0 c0, .slice A1 n1 c1, .slice A2 n2 c2]
  have hwL : Below w.heap.size w (w.alloc (.cells #[.slice A0 n0 c0, .slice A1 n1 c1, .slice A2 n2 c2] 32)) := below_alloc (Nat.le_refl _) (Below.refl _ _)
  have q0 : (w.alloc (.cells #[.slice A0 n0 c0, .slice A1 n1 c1, .slice A2 n2 c2] 32)).cell? ⟨w.heap.size, 0, none⟩ = some (.slice A0 n0 c0) := bx.cell 0
  have q1 : (w.alloc (.cells #[.slice A0 n0 c0, .slice A1 n1 c1, .slice A2 n2 c2] 32)).cell? ⟨w.heap.size, 1, none⟩ = some (.slice A1 n1 c1) := bx.cell 1
  have q2 : (w.alloc (.cells #[.slice A0 n0 c0, .slice A1 n1 c1, .slice A2 n2 c2] 32)).cell? ⟨w.heap.size, 2, none⟩ = some (.slice A2 n2 c2) := bx.cell 2
  cases hp : parB g with
  | false =>
    have E := Lib.hid (gmT_no hp)
    have HH := Lib.hid hp
    clear hp
    go_enter Tryz.func7, Tryz.ntmps7
    go_wp2_with fail
    refine (implParityOk _ _ _ _ _ _ (Nat.le_refl _) (ha.keep (keeps_below hwL))).mono ?_; rintro e w1 ⟨rfl, hb1⟩
    rw [HH.out]
    go_wp2
    go_ret
    exact ⟨by rw [E.out]; rfl, (below_then hb1 hwL.size hwL).mono hB⟩
  | true =>
    have hf := finePar_of hp
    have HH := Lib.hid hp
    have HF := Lib.hid hf
    have E := Lib.hid (gmT_yes hp)
    have hn2 : n2 = n0 := by have := hf.2.1; rw [HPl.out, HL.out] at this; exact this
    have hn0 : n0 ≤ 256 := by have := hf.1.2.1; rw [HL.out] at this; exact this
    have HN : Hid (n2 = n0) := Lib.hid hn2
    subst hn2
    have HX := Lib.hid (fun k (hk : k < n2) => vtx_len hf (v := k) (by rw [HL.out]; exact hk))
    have HG := Lib.hid (fun k (hk : k ≤ n2) => gmUp_len hf k (by rw [HL.out]; exact hk))
    have h9 : n2 < 1000000000 := by omega
    have hd : (tx (Lib.decDigits n2)).size ≤ 9 := by rw [tx_size]; exact dec_len9 h9
    have z1 : 5 + (tx (Lib.decDigits n2)).size ≤ 9223372036854775807 := by omega
    have z2 : 5 + (tx (Lib.decDigits n2)).size + 1 ≤ 9223372036854775807 := by omega
    clear hp hf hd HN
    go_enter Tryz.func7, Tryz.ntmps7
    go_wp2_with fail
    refine (implParityOk _ _ _ _ _ _ (Nat.le_refl _) (ha.keep (keeps_below hwL))).mono ?_; rintro e w1 ⟨rfl, hb1⟩
    rw [HH.out]
    have bx1 := bx.below hb1 bx.lt
    have k0 : w1.cell? ⟨w.heap.size, 0, none⟩ = some (.slice A0 n2 c0) := bx1.cell 0
    have k1 : w1.cell? ⟨w.heap.size, 1, none⟩ = some (.slice A1 n1 c1) := bx1.cell 1
    have k2 : w1.cell? ⟨w.heap.size, 2, none⟩ = some (.slice A2 n2 c2) := bx1.cell 2
    have hw1 := below_then hb1 hwL.size hwL
    have hs1 : w.heap.size + 1 ≤ w1.heap.size := bx1.lt
    clear q0 q1 q2
    go_wp2_with fail
    refine (implSize _ _ _ _ _ _ _ _ (Nat.le_refl _) (by omega)).mono ?_; rintro e w2 ⟨rfl, hb2⟩
    have bx2 := bx1.below hb2 bx1.lt
    have hw2 := below_then hb2 hw1.size hw1
    have hs2 : w.heap.size + 1 ≤ w2.heap.size := Nat.le_trans hs1 hb2.size
    clear k0 k1 k2
    go_wp2_with fail
    refine (decimal n2 _ h9 _ (Nat.le_refl _) (hT.below hw2)).mono ?_; rintro e w3 ⟨rfl, hb3⟩
    have bx3 := bx2.below hb3 bx2.lt
    have hw3 := below_then hb3 hw2.size hw2
    have j0 : w3.cell? ⟨w.heap.size, 0, none⟩ = some (.slice A0 n2 c0) := bx3.cell 0
    have j1 : w3.cell? ⟨w.heap.size, 1, none⟩ = some (.slice A1 n1 c1) := bx3.cell 1
    have j2 : w3.cell? ⟨w.heap.size, 2, none⟩ = some (.slice A2 n2 c2) := bx3.cell 2
    go_wp2
    go_loopw [3, 17] (fun v i wr => ∃ k : Nat, k ≤ n2 ∧ i = .int .i64 k ∧ v = .string (tx (gmUp g k)) ∧ Below w.heap.size w wr ∧ Box wr w.heap.size 32 #[.slice A0 n2 c0, .slice A1 n1 c1, .slice A2 n2 c2]) (fun _ i _ => n2 - (intOf i).toNat)
    case atStart => exact ⟨0, Nat.zero_le _, rfl, by rw [gm_head]; unfold gmUp; rw [HL.out], hw3, bx3⟩
    case round =>
      clear bx1 bx2 bx3 j0 j1 j2
      obtain ⟨k, hk, rfl, rfl, hbr, hbx⟩ := hrel
      have hsz := hbr.size
      have hbl := hbx.lt
      have m0 : wr.cell? ⟨w.heap.size, 0, none⟩ = some (.slice A0 n2 c0) := hbx.cell 0
      have m1 : wr.cell? ⟨w.heap.size, 1, none⟩ = some (.slice A1 n1 c1) := hbx.cell 1
      have m2 : wr.cell? ⟨w.heap.size, 2, none⟩ = some (.slice A2 n2 c2) := hbx.cell 2
      by_cases hlt : k < n2
      · have hll : (tx (gmUp g k)).size ≤ 4194304 := by rw [tx_size]; have := HG.out k hk; omega
        have hvl : (tx (vtx g k)).size ≤ 4194304 := by rw [tx_size]; have := HX.out k hlt; omega
        have HK := Lib.hid (show k < g.1.length by rw [HL.out]; exact hlt)
        have HU : Hid (gmUp g (k + 1) = gmUp g k ++ (vtx g k ++ [10])) := Lib.hid rfl
        have y1 : (tx (vtx g k)).size + 1 ≤ 9223372036854775807 := by omega
        have y2 : (tx (gmUp g k)).size + ((tx (vtx g k)).size + 1) ≤ 9223372036854775807 := by omega
        go_wp2_with fail
        refine (vertexText _ _ _ _ _ _ _ (Nat.le_refl _) (hT.below hbr) (hP.keep (keeps_below hbr)) (ha.keep (keeps_below hbr)) HF.out HK.out).mono ?_; rintro e w4 ⟨rfl, hb4⟩
        have bx4 := hbx.below hb4 hbl
        have hw4 := below_then hb4 hbr.size hbr
        clear m0 m1 m2
        go_wp2
        go_roundw
        case rel =>
          refine ⟨k + 1, by omega, by go_num, ?_, hw4, bx4⟩
          show Value.string (tx (gmUp g k) ++ (tx (vtx g k) ++ tx [10])) = _
          rw [tx_app, tx_app, HU.out]
        case measure => simp [intOf]; omega
      · obtain rfl : k = n2 := by omega
        go_wp2
        go_ret
        exact ⟨by rw [E.out, HL.out]; rfl, hbr.mono hB⟩
end Go.Proofs.YtkhkdnmpbfmmeaaGreatDoor
namespace Go.Proofs.YtkhkdnmpbfmmeaaGreatDoor
open Go.RowKit

theorem spl_mid (c : UInt8) (b : List UInt8) : ∀ a : List UInt8, spl c (a ++ c :: b) = spl c a ++ spl c b
  | [] => by simp [spl]
  | x :: a => by
    have ih := spl_mid c b a
    have e : ∀ l, spl c (x :: l) = if x = c then [] :: spl c l else match spl c l with
      | [] => [[x]]
      | y :: r => (x :: y) :: r := fun l => by rw [spl]; rfl
    rw [List.cons_append, e, e]
    by_cases h : x = c
    · rw [if_pos h, if_pos h, ih]; rfl
    · rw [if_neg h, if_neg h, ih]
      have hne := spl_ne c a
      cases hs : spl c a with
      | nil => exact absurd hs hne
      | cons y r => rfl
/-- lines, each with its end -/
def unl : List (List UInt8) → List UInt8
  | [] => []
  | x :: r => x ++ 10 :: unl r
theorem unl_app (a b : List (List UInt8)) : unl (a ++ b) = unl a ++ unl b := by
  induction a with
  | nil => rfl
  | cons x r ih => rw [List.cons_append, unl, unl, ih, List.append_assoc, List.cons_append]
theorem unl_one (x : List UInt8) : unl [x] = x ++ [10] := rfl
theorem unl_spl : ∀ (ls : List (List UInt8)), (∀ x ∈ ls, (10 : UInt8) ∉ x) → spl 10 (unl ls) = ls ++ [[]]
  | [], _ => rfl
  | x :: r, h => by
    rw [unl, spl_hit 10 _ x (h x List.mem_cons_self), unl_spl r (fun y hy => h y (List.mem_cons_of_mem _ hy))]
    rfl
theorem unl_len : ∀ (ls : List (List UInt8)) (b : Nat), (∀ x ∈ ls, x.length ≤ b) → (unl ls).length ≤ (b + 1) * ls.length
  | [], _, _ => by simp [unl]
  | x :: r, b, h => by
    have h1 := unl_len r b (fun y hy => h y (List.mem_cons_of_mem _ hy))
    have h2 := h x List.mem_cons_self
    rw [unl, List.length_append, List.length_cons, List.length_cons, Nat.mul_add]
    omega
theorem gx_app {a b : List (List UInt8)} {i : Nat} (h : i < a.length) : gx (a ++ b) i = gx a i := by
  unfold gx
  rw [List.getD_eq_getElem?_getD, List.getD_eq_getElem?_getD, List.getElem?_append_left h]
theorem gx_end (a : List (List UInt8)) : gx (a ++ [[]]) a.length = [] := by simp [gx]
section
variable {ls : List (List UInt8)} (h : ∀ x ∈ ls, (10 : UInt8) ∉ x)
include h
theorem unl_anN : anN (unl ls) = ls.length := by unfold anN; rw [unl_spl ls h]; simp
theorem unl_mor : mor (unl ls) = false := by
  unfold mor
  rw [unl_anN h, unl_spl ls h, gx_end]
  rfl
theorem unl_gx {i : Nat} (hi : i < ls.length) : gx (spl 10 (unl ls)) i = gx ls i := by rw [unl_spl ls h, gx_app hi]
end
theorem gx_range {f : Nat → List UInt8} {n i : Nat} (h : i < n) : gx ((List.range n).map f) i = f i := by
  rw [gx_get (by simpa using h), List.getElem_map, List.getElem_range]
/-- the lines of a game's text as far as k vertices -/
def gLs (g : ParD) (k : Nat) : List (List UInt8) := (gmB ++ Lib.decDigits g.1.length) :: (List.range k).map (vtx g)
theorem gLs_len (g : ParD) (k : Nat) : (gLs g k).length = k + 1 := by simp [gLs]
theorem gm_unl (g : ParD) : ∀ k, gmUp g k = unl (gLs g k)
  | 0 => by simp [gmUp, gLs, unl]
  | k + 1 => by
    have ih := gm_unl g k
    unfold gmUp
    rw [ih, show gLs g (k + 1) = gLs g k ++ [vtx g k] by simp [gLs, List.range_succ], unl_app, unl_one]
theorem vtx_clean {g : ParD} (hf : finePar g) {v : Nat} (hv : v < g.1.length) : (10 : UInt8) ∉ vtx g v := by
  obtain ⟨⟨f1, f2, f3, f4⟩, f5, f6⟩ := hf
  obtain ⟨-, ⟨x0, x1⟩, xs⟩ := f4 v hv
  rw [vtx_eq x0]
  intro h
  rcases List.mem_append.1 h with h | h
  · rcases List.mem_append.1 h with h | h
    · rcases List.mem_append.1 h with h | h
      · exact dec_clean (by decide) h
      · exact absurd (List.mem_singleton.1 h) (by decide)
    · exact wo_clean (by decide) (by decide) h
  · unfold tlx Lib.joinTail at h
    obtain ⟨x, hx, hm⟩ := List.mem_flatten.1 h
    obtain ⟨y, hy, rfl⟩ := List.mem_map.1 hx
    obtain ⟨u, _, rfl⟩ := List.mem_map.1 hy
    rcases List.mem_append.1 hm with h | h
    · exact absurd (List.mem_singleton.1 h) (by decide)
    · exact dec_clean (by decide) h
theorem head_clean (n : Nat) : (10 : UInt8) ∉ gmB ++ Lib.decDigits n := by
  intro h
  rcases List.mem_append.1 h with h | h
  · exact absurd h (by decide)
  · exact dec_clean (by decide) h
theorem gLs_clean {g : ParD} (hf : finePar g) : ∀ x ∈ gLs g g.1.length, (10 : UInt8) ∉ x := by
  intro x hx
  rcases List.mem_cons.1 hx with rfl | hx
  · exact head_clean _
  · obtain ⟨v, hv, rfl⟩ := List.mem_map.1 hx
    exact vtx_clean hf (List.mem_range.1 hv)
theorem gLs_at {g : ParD} {n j : Nat} (h : j < n) : gx (gLs g n) (j + 1) = vtx g j := by
  have e : gx (gLs g n) (j + 1) = gx ((List.range n).map (vtx g)) j := rfl
  rw [e, gx_range h]
theorem gLs_0 (g : ParD) (n : Nat) : gx (gLs g n) 0 = gmB ++ Lib.decDigits g.1.length := rfl
theorem head_n {n : Nat} (h1 : 1 ≤ n) (h2 : n ≤ 256) : hdN (gmB ++ Lib.decDigits n) = (n : Int) := by
  rw [hd_pre, rdNum_dec (by omega) (by omega), if_pos (by omega)]
theorem rdNum_sp {a b : List UInt8} {most : Int} : rdNum (a ++ 32 :: b) most = -1 := by
  unfold rdNum
  rw [if_neg]
  intro k
  have := (of_decide_eq_true k.1).2.2.2 32 (by simp)
  exact absurd this (by decide)
theorem head_bad (n : Nat) : hdN (gmB ++ Lib.decDigits n ++ [32, 120]) = 0 := by
  rw [List.append_assoc, hd_pre, rdNum_sp]
  rfl
/-- a line with a word behind it that is none -/
theorem vtx_bad (l : List UInt8) (n : Int) (h : 2 ≤ (spl 32 l).length) : tvOk (l ++ [32, 120]) n = false := by
  have hs : spl 32 (l ++ [32, 120]) = spl 32 l ++ [[120]] := spl_mid 32 [120] l
  have hl : (spl 32 (l ++ [32, 120])).length = (spl 32 l).length + 1 := by rw [hs]; simp
  obtain ⟨i, hi⟩ : ∃ i, i + 2 = (spl 32 l).length := ⟨(spl 32 l).length - 2, by omega⟩
  refine tv_bad (i := i) (by omega) (fun hk => ?_)
  have h1 := hk.1
  rw [tvN_gi (by omega), hs, hi] at h1
  have e : gx (spl 32 l ++ [[120]]) (spl 32 l).length = [120] := by simp [gx]
  rw [e] at h1
  have e2 : rdNum [120] (n - 1) = -1 := by
    unfold rdNum
    rw [if_neg]
    intro k
    exact absurd k.1 (by decide)
  omega
theorem map_gi {xs : List Int} {n : Nat} {f : Nat → Int} (hn : xs.length = n) (h : ∀ j, j < n → f j = gi xs j) : (List.range n).map f = xs := by
  apply List.ext_getElem
  · simpa using hn.symm
  · intro i h1 h2
    rw [List.getElem_map, List.getElem_range, h i (by omega), gi_get h2]
theorem map_gl {xs : List (List Int)} {n : Nat} {f : Nat → List Int} (hn : xs.length = n) (h : ∀ j, j < n → f j = gl xs j) : (List.range n).map f = xs := by
  apply List.ext_getElem
  · simpa using hn.symm
  · intro i h1 h2
    rw [List.getElem_map, List.getElem_range, h i (by omega)]
    simp [gl, h2]
/-- reading the text of a game gives the game -/
theorem game_back {g : ParD} (hp : parB g = true) (h8 : g.1.length ≤ 8) : tgE (gmT g) = -1 ∧ tgZ (gmT g) = g := by
  have hf := finePar_of hp
  have hc := gLs_clean hf
  have h1 := hf.1.1
  obtain ⟨n, hn⟩ : ∃ n, g.1.length = n := ⟨_, rfl⟩
  have hE : gmT g = unl (gLs g n) := by rw [gmT_yes hp, gm_unl, hn]
  have h3 : (gmT g).length ≤ 20000 := by
    rw [gmT_yes hp]
    have := gmUp_len hf g.1.length (Nat.le_refl _)
    omega
  rw [hE] at h3 ⊢
  rw [hn] at hc h8 h1
  have hA : anN (unl (gLs g n)) = n + 1 := by rw [unl_anN hc, gLs_len]
  have hG : ∀ j, j < n → gx (spl 10 (unl (gLs g n))) (j + 1) = vtx g j := fun j hj => by rw [unl_gx hc (by rw [gLs_len]; omega), gLs_at hj]
  have hB : ∀ j, j < n → tvOk (vtx g j) (n : Int) = true ∧ tvP (vtx g j) (n : Int) = gi g.2.2 j ∧ tvO (vtx g j) (n : Int) = gi g.1 j ∧ tvX (vtx g j) (n : Int) = gl g.2.1 j := fun j hj => by
    have := vtx_back hf (v := j) (by omega)
    rw [hn] at this
    exact this
  have hH : tgH (unl (gLs g n)) = (n : Int) := by
    unfold tgH
    rw [hA, if_pos (by omega), unl_gx hc (by rw [gLs_len]; omega), gLs_0, hn, head_n h1 (by omega)]
  obtain ⟨e1, e2⟩ := tg_all h3 hH (by omega) (fun j hj => tgG_yes (by omega) (by rw [hG j hj]; exact (hB j hj).1)) (by omega) (unl_mor hc)
  refine ⟨e1, e2.trans ?_⟩
  obtain ⟨a, b, c⟩ := g
  unfold tgUp
  rw [map_gi hn (fun j hj => by rw [hG j hj]; exact (hB j hj).2.2.1), map_gl (hf.1.2.2.1.trans hn) (fun j hj => by rw [hG j hj]; exact (hB j hj).2.2.2), map_gi (hf.2.1.trans hn) (fun j hj => by rw [hG j hj]; exact (hB j hj).2.1)]
/-- the lines with a word behind the k-th -/
def dmg (ls : List (List UInt8)) (k i : Nat) : List (List UInt8) := (List.range i).map fun j => if j = k then gx ls j ++ [32, 120] else gx ls j
theorem dmg_len (ls : List (List UInt8)) (k i : Nat) : (dmg ls k i).length = i := by simp [dmg]
theorem dmg_succ (ls : List (List UInt8)) (k i : Nat) : unl (dmg ls k (i + 1)) = unl (dmg ls k i) ++ ((if i = k then gx ls i ++ [32, 120] else gx ls i) ++ [10]) := by
  unfold dmg
  rw [List.range_succ, List.map_append, unl_app]
  rfl
theorem dmg_clean {ls : List (List UInt8)} (h : ∀ x ∈ ls, (10 : UInt8) ∉ x) (k : Nat) {i : Nat} (hi : i ≤ ls.length) : ∀ x ∈ dmg ls k i, (10 : UInt8) ∉ x := by
  intro x hx
  obtain ⟨j, hj, rfl⟩ := List.mem_map.1 hx
  have hm := h _ (gx_mem (show j < ls.length by have := List.mem_range.1 hj; omega))
  split
  · intro hk
    rcases List.mem_append.1 hk with hk | hk
    · exact hm hk
    · exact absurd hk (by decide)
  · exact hm
theorem gLs_short {g : ParD} (hf : finePar g) : ∀ x ∈ gLs g g.1.length, x.length ≤ 200 := by
  intro x hx
  rcases List.mem_cons.1 hx with rfl | hx
  · have := dec_len9 (u := g.1.length) (by have := hf.1.2.1; omega)
    rw [List.length_append, show gmB.length = 5 from rfl]
    omega
  · obtain ⟨v, hv, rfl⟩ := List.mem_map.1 hx
    exact vtx_small hf (List.mem_range.1 hv)
theorem dmg_short {ls : List (List UInt8)} {b : Nat} (h : ∀ x ∈ ls, x.length ≤ b) (k : Nat) {i : Nat} (hi : i ≤ ls.length) : ∀ x ∈ dmg ls k i, x.length ≤ b + 2 := by
  intro x hx
  obtain ⟨j, hj, rfl⟩ := List.mem_map.1 hx
  have hm := h _ (gx_mem (show j < ls.length by have := List.mem_range.1 hj; omega))
  split
  · rw [List.length_append]; simp; omega
  · omega
/-- the damaged line is told -/
theorem game_dmg {g : ParD} (hp : parB g = true) (h8 : g.1.length ≤ 8) {k : Nat} (hk : k < g.1.length + 1) : tgE (unl (dmg (gLs g g.1.length) k (g.1.length + 1))) = (k : Int) ∧ tgZ (unl (dmg (gLs g g.1.length) k (g.1.length + 1))) = ([], [], []) := by
  have hf := finePar_of hp
  obtain ⟨n, hn⟩ : ∃ n, g.1.length = n := ⟨_, rfl⟩
  have hc0 := gLs_clean hf
  have hs0 := gLs_short hf
  have h1 := hf.1.1
  rw [hn] at hc0 hs0 h8 h1 hk ⊢
  have hl0 := gLs_len g n
  have hc := dmg_clean hc0 k (show n + 1 ≤ (gLs g n).length by omega)
  have hs := unl_len _ _ (dmg_short hs0 k (show n + 1 ≤ (gLs g n).length by omega))
  rw [dmg_len] at hs
  have h3 : (unl (dmg (gLs g n) k (n + 1))).length ≤ 20000 := by omega
  have hA : anN (unl (dmg (gLs g n) k (n + 1))) = n + 1 := by rw [unl_anN hc, dmg_len]
  have hG : ∀ j, j < n + 1 → gx (spl 10 (unl (dmg (gLs g n) k (n + 1)))) j = if j = k then gx (gLs g n) j ++ [32, 120] else gx (gLs g n) j := fun j hj => by
    rw [unl_gx hc (by rw [dmg_len]; omega)]
    exact gx_range hj
  have hB : ∀ j, j < n → tvOk (vtx g j) (n : Int) = true := fun j hj => by
    have := (vtx_back hf (v := j) (by omega)).1
    rw [hn] at this
    exact this
  cases k with
  | zero =>
    have hH : tgH (unl (dmg (gLs g n) 0 (n + 1))) = 0 := by
      unfold tgH
      rw [hA, if_pos (by omega), hG 0 (by omega), if_pos rfl, gLs_0, head_bad]
    exact tg_head h3 hH
  | succ k =>
    have hH : tgH (unl (dmg (gLs g n) (k + 1) (n + 1))) = (n : Int) := by
      unfold tgH
      rw [hA, if_pos (by omega), hG 0 (by omega), if_neg (by omega), gLs_0, hn, head_n h1 (by omega)]
    have := tg_bad h3 hH (k := k) (by omega) (fun j hj => tgG_yes (by omega) (by rw [hG (j + 1) (by omega), if_neg (by omega), gLs_at (by omega)]; exact hB j (by omega)))
      (tgG_bad (by
        rw [hG (k + 1) (by omega), if_pos rfl, gLs_at (by omega)]
        refine vtx_bad _ _ ?_
        have h9 := (hf.1.2.2.2 k (by omega)).2.1.1
        rw [vtx_spl h9]
        unfold vws
        simp))
    refine ⟨?_, this.2⟩
    rw [this.1]
    omega
theorem unm_mk {u : Int} (h : -1 ≤ u ∧ u < 256) : unm (mkT u) = u := by
  unfold mkT
  by_cases e : u = -1
  · rw [if_pos e, e]; rfl
  · obtain ⟨k, rfl⟩ := Int.eq_ofNat_of_zero_le (show 0 ≤ u by omega)
    rw [if_neg e, Int.toNat_natCast]
    have h1 : rdNum (Lib.decDigits k) 255 = (k : Int) := rdNum_dec (by omega) (by omega)
    unfold unm
    rw [if_neg, h1, if_pos (by omega)]
    intro h2
    rw [h2] at h1
    have h3 : rdNum [45] 255 = -1 := by decide
    omega
theorem mk_clean {u : Int} {c : UInt8} (h1 : isDg c = false) (h2 : c ≠ 45) : c ∉ mkT u := by
  unfold mkT
  split
  · intro h; exact h2 (List.mem_singleton.1 h)
  · exact dec_clean h1
theorem mk_ne (u : Int) : mkT u ≠ [] := by
  unfold mkT
  split
  · simp
  · have := dec_ne u.toNat
    intro h
    rw [h] at this
    simp at this
/-- reading the text of an answer gives the answer -/
def aLn (z : TwoD) (j : Nat) : List UInt8 := wo (gi z.1 j) ++ [32] ++ mkT (gi z.2 j)
def aLs (z : TwoD) (k : Nat) : List (List UInt8) := (List.range k).map (aLn z)
theorem an_unl (z : TwoD) : ∀ k, ansUp z k = unl (aLs z k)
  | 0 => rfl
  | k + 1 => by
    have ih := an_unl z k
    unfold ansUp
    rw [ih, show aLs z (k + 1) = aLs z k ++ [aLn z k] by simp [aLs, List.range_succ], unl_app, unl_one]
    rfl
theorem aLn_clean (z : TwoD) (j : Nat) : (10 : UInt8) ∉ aLn z j := by
  intro h
  rcases List.mem_append.1 h with h | h
  · rcases List.mem_append.1 h with h | h
    · exact wo_clean (by decide) (by decide) h
    · exact absurd (List.mem_singleton.1 h) (by decide)
  · exact mk_clean (by decide) (by decide) h
theorem aLn_spl (z : TwoD) (j : Nat) : spl 32 (aLn z j) = [wo (gi z.1 j), mkT (gi z.2 j)] := by
  unfold aLn
  rw [List.append_assoc]
  show spl 32 (wo (gi z.1 j) ++ 32 :: mkT (gi z.2 j)) = _
  rw [spl_hit 32 _ _ (wo_clean (by decide) (by decide)), spl_none 32 _ (mk_clean (by decide) (by decide))]
theorem answer_back {z : TwoD} (hz : shapeOk z.1 z.2 = true) (h8 : z.1.length ≤ 8) : taE (ansT z) = -1 ∧ taZ (ansT z) = z := by
  obtain ⟨h1, h2, h3, h4⟩ := of_decide_eq_true hz
  obtain ⟨n, hn⟩ : ∃ n, z.1.length = n := ⟨_, rfl⟩
  have hE : ansT z = unl (aLs z n) := by rw [ansT_yes hz, an_unl, hn]
  have hl : (ansT z).length ≤ 3000 := by
    rw [ansT_yes hz]
    have := ansUp_len z (fun i hi => (h4 _ (gi_mem hi)).2) z.1.length (by omega)
    omega
  rw [hE] at hl ⊢
  have hc : ∀ x ∈ aLs z n, (10 : UInt8) ∉ x := fun x hx => by
    obtain ⟨j, _, rfl⟩ := List.mem_map.1 hx
    exact aLn_clean z j
  have hA : anN (unl (aLs z n)) = n := by rw [unl_anN hc]; simp [aLs]
  have hW : ∀ j, j < n → anW (unl (aLs z n)) j = [wo (gi z.1 j), mkT (gi z.2 j)] := fun j hj => by
    unfold anW
    rw [unl_gx hc (by simp [aLs]; omega), show gx (aLs z n) j = aLn z j from gx_range hj, aLn_spl]
  have hP : ∀ j, j < n → plr (gx (anW (unl (aLs z n)) j) 0) = gi z.1 j := fun j hj => by
    rw [hW j hj]
    exact plr_wo (h3 _ (gi_mem (by omega)))
  have hU : ∀ j, j < n → unm (gx (anW (unl (aLs z n)) j) 1) = gi z.2 j := fun j hj => by
    rw [hW j hj]
    exact unm_mk (h4 _ (gi_mem (by omega)))
  have hall : ∀ j, j < anN (unl (aLs z n)) → anG (unl (aLs z n)) j = true := fun j hj => by
    rw [hA] at hj
    have a1 := h3 _ (gi_mem (show j < z.1.length by omega))
    have a2 := h4 _ (gi_mem (show j < z.2.length by omega))
    exact decide_eq_true ⟨by omega, by rw [hW j hj]; rfl, by rw [hP j hj]; omega, by rw [hU j hj]; omega⟩
  obtain ⟨e1, e2⟩ := ta_all hl hall (unl_mor hc)
  refine ⟨e1, e2.trans ?_⟩
  rw [hA]
  obtain ⟨a, b⟩ := z
  unfold taUp
  rw [map_gi hn hP, map_gi (by omega) hU]
/-- reading the text of a plan gives the plan -/
theorem plan_back {us : List Int} (h : ∀ u ∈ us, -1 ≤ u ∧ u < 256) (h0 : us ≠ []) (h8 : us.length ≤ 8) : tplOk (planT us) = true ∧ tplD (planT us) = us := by
  have hok : entOk us = true := decide_eq_true ⟨by omega, h⟩
  have hE : planT us = Lib.join (us.map mkT) [32] := by
    rw [planT_yes hok]
    unfold jn marks
    rw [List.map_map]
    congr 1
  have hs : spl 32 (planT us) = us.map mkT := by
    rw [hE]
    refine spl_join 32 _ (by simpa using h0) (fun x hx => ?_)
    obtain ⟨u, _, rfl⟩ := List.mem_map.1 hx
    exact mk_clean (by decide) (by decide)
  have hl : (planT us).length ≤ 3000 := by
    have h1 := spl_length 32 _ (planT us) (Nat.le_refl _)
    rw [hs, List.map_map] at h1
    have : ∀ (xs : List Int), (∀ u ∈ xs, -1 ≤ u ∧ u < 256) → (xs.map ((fun x => x.length + 1) ∘ mkT)).sum ≤ 10 * xs.length := by
      intro xs
      induction xs with
      | nil => intro _; simp
      | cons x r ih =>
        intro hx
        have a1 := ih (fun y hy => hx y (List.mem_cons_of_mem _ hy))
        have a2 := mkT_len (u := x) (by have := hx x List.mem_cons_self; omega)
        rw [List.map_cons, List.sum_cons, List.length_cons]
        simp only [Function.comp] at a1 ⊢
        omega
    have := this us h
    omega
  have hne : planT us ≠ [] := by
    intro e
    rw [e] at hs
    have e1 : ([[]] : List (List UInt8)) = us.map mkT := hs
    cases us with
    | nil => exact h0 rfl
    | cons x r =>
      rw [List.map_cons] at e1
      injection e1 with e1 _
      exact mk_ne x e1.symm
  have hk : tplOk (planT us) = true := tplOk_yes hl (by rw [hs]; simp; omega) (fun x hx => by
    rw [hs] at hx
    obtain ⟨u, hu, rfl⟩ := List.mem_map.1 hx
    rw [unm_mk (h u hu)]
    exact (h u hu).1)
  refine ⟨hk, ?_⟩
  rw [tplD_yes hk hne, hs]
  unfold ents
  rw [List.map_map]
  conv => rhs; rw [← List.map_id us]
  apply List.map_congr_left
  intro u hu
  exact unm_mk (h u hu)
end Go.Proofs.YtkhkdnmpbfmmeaaGreatDoor
namespace Go.Proofs.YtkhkdnmpbfmmeaaGreatDoor
open Go.RowKit

set_option maxHeartbeats 400000 in
theorem l1SameL (A B : Option Addr) (n m c d : Nat) (xs ys : List Int) (w : World) (ha : RI w A n c xs) (hb : RI w B m d ys) :
    Calls Tryz.prog 29 #[.slice A n c, .slice B m d] w fun e w' => e = .returned (.bool (eqL xs ys)) ∧ Qt w w' := by
  have b1 := ha.cap; have b2 := ha.top; have b3 := hb.cap; have b4 := hb.top
  by_cases hnm : n = m
  · subst hnm
    have hnn : ((n : Int) != (n : Int)) = false := by simp
    go_enter Tryz.func29, Tryz.ntmps29
    go_wp2
    go_loopw [5] (fun i wr => ∃ k : Nat, k ≤ n ∧ i = .int .i64 k ∧ (∀ j, j < k → gi xs j = gi ys j) ∧ ∃ q, wr = w.drewN q) (fun i _ => n - (intOf i).toNat)
    case atStart => exact ⟨0, Nat.zero_le _, rfl, by omega, 0, rfl⟩
    case round =>
      obtain ⟨k, hk, rfl, hall, q, rfl⟩ := hrel
      by_cases hlt : k < n
      · obtain ⟨b, off, rfl, hc1⟩ := ha.at_ hlt
        obtain ⟨b', off', rfl, hc2⟩ := hb.at_ hlt
        have hki : (k : Int) < (n : Int) := by omega
        have hk0 : (0 : Int) ≤ (k : Int) := by omega
        by_cases he : gi xs k = gi ys k
        · have H := Lib.hid he
          have hne : (gi xs k != gi ys k) = false := by simp [he]
          clear he
          go_wp2
          go_quiet (fail)
          go_wp2
          go_roundw
          case rel => exact ⟨k + 1, by omega, by go_num, all_succ hall H.out, _, rfl⟩
          case measure => simp [intOf]; omega
        · have H := Lib.hid he
          have hne : (gi xs k != gi ys k) = true := by simp [he]
          clear he
          go_wp2
          go_quiet (fail)
          go_wp2
          go_ret
          exact ⟨ret_b (eqL_ne H.out).symm, Qt.drew2 _ _⟩
      · go_wp2
        go_ret
        obtain rfl : k = n := by omega
        exact ⟨ret_b (eqL_of ha.1 hb.1 hall).symm, _, rfl⟩
  · have hnn : ((n : Int) != (m : Int)) = true := by simp; omega
    have H := Lib.hid hnm
    clear hnm
    go_enter Tryz.func29, Tryz.ntmps29
    go_wp2
    go_ret
    exact ⟨ret_b (eqL_len (by rw [ha.1, hb.1]; exact H.out)).symm, Qt.refl _⟩



set_option maxRecDepth 100000 in
set_option maxHeartbeats 1600000 in
theorem sameArena (s0 s1 t0 t1 : Value) (z : ArD) (w : World) (B : Nat) (hB : B ≤ w.heap.size) (ha : RAv w s0 s1 z.1 z.2) (hb : RAv w t0 t1 z.1 z.2) (har : arB z.1 z.2 = true) :
    Calls Tryz.prog 28 #[.agg #[s0, s1], .agg #[t0, t1]] w fun e w' => e = .returned (.bool true) ∧ Below B w w' := by
  obtain ⟨A0, n0, c0, A1, n1, c1, rfl, rfl⟩ := ha.form
  obtain ⟨B0, m0, d0, B1, m1, d1, rfl, rfl⟩ := hb.form
  have hr := ha.ri; have hrr := ha.rii; have kr := hb.ri; have krr := hb.rii
  obtain rfl : m0 = n0 := by rw [← kr.len, hr.len]
  obtain rfl : m1 = n1 := by rw [← krr.len, hrr.len]
  have b1 := hrr.cap; have b2 := hrr.top
  have HAR := Lib.hid har
  have hn1 : m1 ≤ 256 := by have h := fineAr_of har; have h1 := h.2.1; have h2 := h.2.2.1; rw [hrr.len] at h2; omega
  have hba : Below w.heap.size w ((w.alloc (.cells #[.slice A0 m0 c0, .slice A1 m1 c1] 30)).alloc (.cells #[.slice B0 m0 d0, .slice B1 m1 d1] 30)) := below_alloc (Nat.le_refl _) (below_alloc (Nat.le_refl _) (Below.refl _ _))
  have bx := (Box.new w 30 #[.slice A0 m0 c0, .slice A1 m1 c1]).alloc (.cells #[.slice B0 m0 d0, .slice B1 m1 d1] 30)
  have bl : Box ((w.alloc (.cells #[.slice A0 m0 c0, .slice A1 m1 c1] 30)).alloc (.cells #[.slice B0 m0 d0, .slice B1 m1 d1] 30)) (w.heap.size + 1) 30 #[.slice B0 m0 d0, .slice B1 m1 d1] := Box.new' (by simp)
  have q0 := bx.d0; have q1 := bx.d1; have p0 := bl.d0; have p1 := bl.d1
  clear har
  go_enter Tryz.func28, Tryz.ntmps28
  go_wp2_with fail
  refine (specArenaOk _ _ _ _ _ _ z.1 z.2 _ _ (Nat.le_refl _) (hr.keep (keeps_below hba)) (hrr.keep (keeps_below hba))).mono ?_; rintro e w1 ⟨rfl, hb1⟩
  rw [HAR.out]
  have hw1 := below_then hb1 hba.size hba
  replace bx := bx.below hb1 bx.lt; replace bl := bl.below hb1 bl.lt
  clear q0 q1 p0 p1 hb1 hba
  have q0 := bx.d0; have q1 := bx.d1; have p0 := bl.d0; have p1 := bl.d1
  go_wp2_with fail
  refine (specArenaOk _ _ _ _ _ _ z.1 z.2 _ _ (Nat.le_refl _) (kr.keep (keeps_below hw1)) (krr.keep (keeps_below hw1))).mono ?_; rintro e w2 ⟨rfl, hb2⟩
  rw [HAR.out]
  have hw2 := below_then hb2 hw1.size hw1
  replace bx := bx.below hb2 bx.lt; replace bl := bl.below hb2 bl.lt
  clear q0 q1 p0 p1 hb2
  have q0 := bx.d0; have q1 := bx.d1; have p0 := bl.d0; have p1 := bl.d1
  go_wp2_with fail
  refine (l1SameL _ _ _ _ _ _ z.1 z.1 _ (hr.keep (keeps_below hw2)) (kr.keep (keeps_below hw2))).mono ?_; rintro e w3 ⟨rfl, qq⟩
  rw [eqL_self]
  have hb3 := below_qt qq (Below.refl w2.heap.size w2)
  have hw3 := below_then hb3 hw2.size hw2
  replace bx := bx.below hb3 bx.lt; replace bl := bl.below hb3 bl.lt
  clear q0 q1 p0 p1 hb3 qq
  go_wp2
  go_loopw [5] (fun i wr => ∃ k : Nat, k ≤ m1 ∧ i = .int .i64 k ∧ Below w3.heap.size w3 wr) (fun i _ => m1 - (intOf i).toNat)
  case atStart => exact ⟨0, Nat.zero_le _, rfl, Below.refl _ _⟩
  case round =>
    obtain ⟨k, hk, rfl, hbr⟩ := hrel
    have bxr := bx.below hbr bx.lt
    have blr := bl.below hbr bl.lt
    have hwr := below_then hbr hw3.size hw3
    have q0 := bxr.d0; have q1 := bxr.d1; have p0 := blr.d0; have p1 := blr.d1
    by_cases hlt : k < m1
    · obtain ⟨bn, on, An, nn, cn, rfl, hcN, rn⟩ := hrr.at_ hlt
      obtain ⟨bm, om, Am, nm, cm, rfl, hcM, rm⟩ := krr.at_ hlt
      have hcn := keeps_below hwr _ _ hcN
      have hcm := keeps_below hwr _ _ hcM
      have hki : (k : Int) < (m1 : Int) := by omega
      have hk0 : (0 : Int) ≤ (k : Int) := by omega
      go_wp2_with fail
      refine wp_region_held_drew (S := fun w' => w'.cell? ⟨w.heap.size, 1, none⟩ = some (.slice (some ⟨bn, on, none⟩) m1 c1) ∧ w'.cell? ⟨w.heap.size + 1, 1, none⟩ = some (.slice (some ⟨bm, om, none⟩) m1 d1) ∧ w'.cell? ⟨bn, on + k, none⟩ = some (.slice An nn cn) ∧ w'.cell? ⟨bm, om + k, none⟩ = some (.slice Am nm cm)) (by kernel_rfl) (⟨q1, p1, hcn, hcm⟩) (fun hHeld => ?_)
      refine takeH0 (v := ?_) (by kernel_rfl) (by kernel_rfl) (by kernel_rfl) (fun _ _ _ h => h) hHeld (by rfl) ?_ ?_
      rotate_left; · (intro w hSw; (try dsimp only at hSw); go_simp; try with_reducible rfl)
      try simp only [Act.put, List.setIfInBounds_toArray, List.set_cons_zero, List.set_cons_succ]
      refine takeH1 (v := ?_) (by kernel_rfl) (by kernel_rfl) (by kernel_rfl) (fun _ _ _ h => h) hHeld (by rfl) ?_ ?_
      rotate_left; · (intro w hSw; (try dsimp only at hSw); go_simp; try with_reducible rfl)
      try simp only [Act.put, List.setIfInBounds_toArray, List.set_cons_zero, List.set_cons_succ]
      refine takeH2 (v := ?_) (by kernel_rfl) (by kernel_rfl) (by kernel_rfl) (fun _ _ _ h => h) hHeld (by rfl) ?_ ?_
      rotate_left; · (intro w hSw; (try dsimp only at hSw); go_simp; try with_reducible rfl)
      try simp only [Act.put, List.setIfInBounds_toArray, List.set_cons_zero, List.set_cons_succ]
      refine takeH3 (v := ?_) (by kernel_rfl) (by kernel_rfl) (by kernel_rfl) (fun _ _ _ h => h) hHeld (by rfl) ?_ ?_
      rotate_left; · (intro w hSw; (try dsimp only at hSw); go_simp; try with_reducible rfl)
      try simp only [Act.put, List.setIfInBounds_toArray, List.set_cons_zero, List.set_cons_succ]
      refine takeH4 (v := ?_) (by kernel_rfl) (by kernel_rfl) (by kernel_rfl) (fun _ _ _ h => h) hHeld (by rfl) ?_ ?_
      rotate_left; · (intro w hSw; (try dsimp only at hSw); go_simp; try with_reducible rfl)
      try simp only [Act.put, List.setIfInBounds_toArray, List.set_cons_zero, List.set_cons_succ]
      refine takeH5 (v := ?_) (by kernel_rfl) (by kernel_rfl) (by kernel_rfl) (fun _ _ _ h => h) hHeld (by rfl) ?_ ?_
      rotate_left; · (intro w hSw; (try dsimp only at hSw); go_simp; try with_reducible rfl)
      try simp only [Act.put, List.setIfInBounds_toArray, List.set_cons_zero, List.set_cons_succ]
      refine takeH6 (v := ?_) (by kernel_rfl) (by kernel_rfl) (by kernel_rfl) (fun _ _ _ h => h) hHeld (by rfl) ?_ ?_
      rotate_left; · (intro w hSw; (try dsimp only at hSw); go_simp; try with_reducible rfl)
      try simp only [Act.put, List.setIfInBounds_toArray, List.set_cons_zero, List.set_cons_succ]
      refine takeH7 (v := ?_) (by kernel_rfl) (by kernel_rfl) (by kernel_rfl) (fun _ _ _ h => h) hHeld (by rfl) ?_ ?_
      rotate_left; · (intro w hSw; (try dsimp only at hSw); go_simp; try with_reducible rfl)
      try simp only [Act.put, List.setIfInBounds_toArray, List.set_cons_zero, List.set_cons_succ]
      refine takeH8 (v := ?_) (by kernel_rfl) (by kernel_rfl) (by kernel_rfl) (fun _ _ _ h => h) hHeld (by rfl) ?_ ?_
      rotate_left; · (intro w hSw; (try dsimp only at hSw); go_simp; try with_reducible rfl)
      try simp only [Act.put, List.setIfInBounds_toArray, List.set_cons_zero, List.set_cons_succ]
      refine takeH9 (v := ?_) (by kernel_rfl) (by kernel_rfl) (by kernel_rfl) (fun _ _ _ h => h) hHeld (by rfl) ?_ ?_
      rotate_left; · (intro w hSw; (try dsimp only at hSw); go_simp; try with_reducible rfl)
      try simp only [Act.put, List.setIfInBounds_toArray, List.set_cons_zero, List.set_cons_succ]
      refine callH10 (by kernel_rfl) (fun K hK => ?_)
      go_simp
      go_at_call 29
      refine (l1SameL _ _ _ _ _ _ (gl z.2 k) (gl z.2 k) _ (rn.keep (keeps_below (Below.drew hwr))) (rm.keep (keeps_below (Below.drew hwr)))).mono ?_; rintro e wh ⟨rfl, qh⟩
      rw [eqL_self]
      have hbh := below_qt qh (Below.drew (Below.refl wr.heap.size wr))
      have bxh := bxr.below hbh bxr.lt
      have blh := blr.below hbh blr.lt
      have h1 := keeps_below hbh _ _ hcn
      have h2 := keeps_below hbh _ _ hcm
      go_wp2_with fail
      refine hK.out _ _ (⟨bxh.d1, blh.d1, h1, h2⟩) (fun hHeld => ?_)
      clear hK K
      try simp only [Act.put, List.setIfInBounds_toArray, List.set_cons_zero, List.set_cons_succ]
      refine takeH11 (v := ?_) (by kernel_rfl) (by kernel_rfl) (by kernel_rfl) (fun _ _ _ h => h) hHeld (by rfl) ?_ ?_
      rotate_left; · (intro w hSw; (try dsimp only at hSw); go_simp; try with_reducible rfl)
      try simp only [Act.put, List.setIfInBounds_toArray, List.set_cons_zero, List.set_cons_succ]
      refine wpAnyH_done (by kernel_rfl) ?_ _
      go_wp2
      go_roundw
      case rel => exact ⟨k + 1, by omega, by go_num, below_then hbh hbr.size hbr⟩
      case measure => simp [intOf]; omega
    · obtain rfl : k = m1 := by omega
      go_wp2
      go_ret
      exact ⟨rfl, hwr.mono hB⟩

set_option maxRecDepth 100000 in
set_option maxHeartbeats 1600000 in
theorem sameParity (s0 s1 s2 t0 t1 t2 : Value) (g : ParD) (w : World) (B : Nat) (hB : B ≤ w.heap.size) (ha : RPv w s0 s1 s2 g) (hb : RPv w t0 t1 t2 g) (hpar : parB g = true) :
    Calls Tryz.prog 10 #[.agg #[s0, s1, s2], .agg #[t0, t1, t2]] w fun e w' => e = .returned (.bool true) ∧ Below B w w' := by
  have har := parB_parts hpar
  have ha' := ha; have hb' := hb
  obtain ⟨A0, n0, c0, A1, n1, c1, A2, n2, c2, rfl, rfl, rfl⟩ := ha'.form
  obtain ⟨B0, m0, d0, B1, m1, d1, B2, m2, d2, rfl, rfl, rfl⟩ := hb'.form
  have hrp := ha.rp; have krp := hb.rp
  have HAR := Lib.hid har; have HPB := Lib.hid hpar
  have hba : Below w.heap.size w ((w.alloc (.cells #[.slice A0 n0 c0, .slice A1 n1 c1, .slice A2 n2 c2] 32)).alloc (.cells #[.slice B0 m0 d0, .slice B1 m1 d1, .slice B2 m2 d2] 32)) := below_alloc (Nat.le_refl _) (below_alloc (Nat.le_refl _) (Below.refl _ _))
  have bx := (Box.new w 32 #[.slice A0 n0 c0, .slice A1 n1 c1, .slice A2 n2 c2]).alloc (.cells #[.slice B0 m0 d0, .slice B1 m1 d1, .slice B2 m2 d2] 32)
  have bl : Box ((w.alloc (.cells #[.slice A0 n0 c0, .slice A1 n1 c1, .slice A2 n2 c2] 32)).alloc (.cells #[.slice B0 m0 d0, .slice B1 m1 d1, .slice B2 m2 d2] 32)) (w.heap.size + 1) 32 #[.slice B0 m0 d0, .slice B1 m1 d1, .slice B2 m2 d2] := Box.new' (by simp)
  have q0 := bx.cell 0; have q1 := bx.cell 1; have q2 := bx.cell 2; have p0 := bl.cell 0; have p1 := bl.cell 1; have p2 := bl.cell 2
  simp only [List.getElem?_toArray, List.getElem?_cons_zero, List.getElem?_cons_succ] at q0 q1 q2 p0 p1 p2
  clear har hpar ha' hb'
  go_enter Tryz.func10, Tryz.ntmps10
  go_wp2_with fail
  refine (specParityOk _ _ _ g _ _ (Nat.le_refl _) (ha.keep (keeps_below hba))).mono ?_; rintro e w1 ⟨rfl, hb1⟩
  rw [HPB.out]
  have hw1 := below_then hb1 hba.size hba
  replace bx := bx.below hb1 bx.lt; replace bl := bl.below hb1 bl.lt
  clear q0 q1 q2 p0 p1 p2
  have q0 := bx.cell 0; have q1 := bx.cell 1; have q2 := bx.cell 2; have p0 := bl.cell 0; have p1 := bl.cell 1; have p2 := bl.cell 2
  simp only [List.getElem?_toArray, List.getElem?_cons_zero, List.getElem?_cons_succ] at q0 q1 q2 p0 p1 p2
  go_wp2_with fail
  refine (specParityOk _ _ _ g _ _ (Nat.le_refl _) (hb.keep (keeps_below hw1))).mono ?_; rintro e w2 ⟨rfl, hb2⟩
  rw [HPB.out]
  have hw2 := below_then hb2 hw1.size hw1
  replace bx := bx.below hb2 bx.lt; replace bl := bl.below hb2 bl.lt
  clear q0 q1 q2 p0 p1 p2
  have q0 := bx.cell 0; have q1 := bx.cell 1; have q2 := bx.cell 2; have p0 := bl.cell 0; have p1 := bl.cell 1; have p2 := bl.cell 2
  simp only [List.getElem?_toArray, List.getElem?_cons_zero, List.getElem?_cons_succ] at q0 q1 q2 p0 p1 p2
  go_wp2_with fail
  refine (sameArena _ _ _ _ (g.1, g.2.1) _ _ (Nat.le_refl _) (ha.1.keep (keeps_below hw2)) (hb.1.keep (keeps_below hw2)) HAR.out).mono ?_; rintro e w3 ⟨rfl, hb3⟩
  skip
  have hw3 := below_then hb3 hw2.size hw2
  replace bx := bx.below hb3 bx.lt; replace bl := bl.below hb3 bl.lt
  clear q0 q1 q2 p0 p1 p2
  have q0 := bx.cell 0; have q1 := bx.cell 1; have q2 := bx.cell 2; have p0 := bl.cell 0; have p1 := bl.cell 1; have p2 := bl.cell 2
  simp only [List.getElem?_toArray, List.getElem?_cons_zero, List.getElem?_cons_succ] at q0 q1 q2 p0 p1 p2
  go_wp2_with fail
  refine (l1SameL _ _ _ _ _ _ g.2.2 g.2.2 _ (hrp.keep (keeps_below hw3)) (krp.keep (keeps_below hw3))).mono ?_; rintro e w4 ⟨rfl, qq4⟩
  have hb4 := below_qt qq4 (Below.refl w3.heap.size w3)
  rw [eqL_self]
  have hw4 := below_then hb4 hw3.size hw3
  replace bx := bx.below hb4 bx.lt; replace bl := bl.below hb4 bl.lt
  clear q0 q1 q2 p0 p1 p2
  have q0 := bx.cell 0; have q1 := bx.cell 1; have q2 := bx.cell 2; have p0 := bl.cell 0; have p1 := bl.cell 1; have p2 := bl.cell 2
  simp only [List.getElem?_toArray, List.getElem?_cons_zero, List.getElem?_cons_succ] at q0 q1 q2 p0 p1 p2
  go_wp2
  go_ret
  exact ⟨rfl, hw4.mono hB⟩
end Go.Proofs.YtkhkdnmpbfmmeaaGreatDoor
namespace Go.Proofs.YtkhkdnmpbfmmeaaGreatDoor
open Go.RowKit

/-- a row of bool of which the first k have been written -/
def fillB (f : Nat → Bool) (n k : Nat) : List Bool := (List.range n).map fun i => decide (i < k) && f i
theorem fillB_len (f : Nat → Bool) (n k : Nat) : (fillB f n k).length = n := by simp [fillB]
theorem fillB_at {f : Nat → Bool} {n k i : Nat} (h : i < n) : gb (fillB f n k) i = (decide (i < k) && f i) := by
  rw [gb_get (by rw [fillB_len]; exact h)]; simp [fillB]
theorem fillB_zero (f : Nat → Bool) (n : Nat) : fillB f n 0 = List.replicate n false := gb_ext (by simp [fillB_len]) fun j hj => by
  rw [fillB_len] at hj
  rw [fillB_at hj, gb_rep]; simp
theorem fillB_put {f : Nat → Bool} {n k : Nat} (h : k < n) : (fillB f n k).set k (f k) = fillB f n (k + 1) := gb_ext (by simp [fillB_len]) fun j hj => by
  rw [List.length_set, fillB_len] at hj
  rw [gb_set (by rw [fillB_len]; exact h), fillB_at hj, fillB_at hj]
  by_cases e : k = j
  · subst e; rw [if_pos rfl]; simp
  · rw [if_neg e]
    by_cases e2 : j < k
    · simp [e2, show j < k + 1 by omega]
    · simp [e2, show ¬ j < k + 1 by omega]
theorem gb_true (n i : Nat) (h : i < n) : gb (List.replicate n true) i = true := by
  rw [gb_get (by simpa using h)]; simp
theorem fillB_true (n : Nat) : fillB (fun _ => true) n n = List.replicate n true := gb_ext (by simp [fillB_len]) fun j hj => by
  rw [fillB_len] at hj
  rw [fillB_at hj, gb_true _ _ hj]; simp [hj]

/-- what has a level -/
def lowM (L : List Int) : List Bool := L.map fun x => decide (0 ≤ x)
theorem negL_len (n : Nat) : (negL n).length = n := fill_len _ _

def keptL (o : List Int) (n : List (List Int)) (who : Int) (x sf : List Bool) (r : List Bool) (v : Nat) : Bool := intoB o n who x v || (gb sf v && intoB o n who r v)
noncomputable def lvlSet (o : List Int) (n : List (List Int)) (who : Int) (sf : List Bool) (m : Nat) (L : List Int) : List Bool := gfp (keptL o n who (lowM L) sf) m (List.replicate m true)
def lvlUp (r : List Bool) (l : Int) (L : List Int) : Nat → List Int
  | 0 => L
  | k + 1 => if gb r k = true ∧ gi L k < 0 then (lvlUp r l L k).set k l else lvlUp r l L k
theorem lvlUp_len (r : List Bool) (l : Int) (L : List Int) (k : Nat) : (lvlUp r l L k).length = L.length := by
  induction k with
  | zero => rfl
  | succ k ih => unfold lvlUp; split <;> simp [ih]
theorem lvlUp_off {r : List Bool} {l : Int} {L : List Int} {k : Nat} (h : ¬ (gb r k = true ∧ gi L k < 0)) : lvlUp r l L (k + 1) = lvlUp r l L k := by rw [lvlUp, if_neg h]
def noNew (r : List Bool) (L : List Int) (k : Nat) : Prop := ∀ j, j < k → ¬ (gb r j = true ∧ gi L j < 0)
theorem lvlUp_none {r : List Bool} {l : Int} {L : List Int} : ∀ {k : Nat}, noNew r L k → lvlUp r l L k = L
  | 0, _ => rfl
  | k + 1, h => by rw [lvlUp_off (h k (by omega)), lvlUp_none fun j hj => h j (by omega)]
noncomputable def lvls (o : List Int) (n : List (List Int)) (who : Int) (sf : List Bool) (m : Nat) : Nat → List Int
  | 0 => negL m
  | t + 1 => lvlUp (lvlSet o n who sf m (lvls o n who sf m t)) t (lvls o n who sf m t) m
theorem lvls_len (o : List Int) (n : List (List Int)) (who : Int) (sf : List Bool) (m t : Nat) : (lvls o n who sf m t).length = m := by
  induction t with
  | zero => exact negL_len m
  | succ t ih => rw [lvls, lvlUp_len, ih]
def isLvl (o : List Int) (n : List (List Int)) (who : Int) (sf : List Bool) (m : Nat) (L : List Int) : Prop := ∃ t, L = lvls o n who sf m t ∧ noNew (lvlSet o n who sf m L) L m
theorem lvls_fix {o : List Int} {n : List (List Int)} {who : Int} {sf : List Bool} {m t : Nat} (h : noNew (lvlSet o n who sf m (lvls o n who sf m t)) (lvls o n who sf m t) m) : ∀ d, lvls o n who sf m (t + d) = lvls o n who sf m t
  | 0 => rfl
  | d + 1 => by rw [← Nat.add_assoc, lvls, lvls_fix h d, lvlUp_none h]
theorem isLvl.eq {o : List Int} {n : List (List Int)} {who : Int} {sf : List Bool} {m : Nat} {r r' : List Int} (h : isLvl o n who sf m r) (h' : isLvl o n who sf m r') : r = r' := by
  obtain ⟨t, rfl, hf⟩ := h
  obtain ⟨t', rfl, hf'⟩ := h'
  rcases Nat.le_total t t' with hl | hl
  · have := lvls_fix hf (t' - t)
    rw [show t + (t' - t) = t' from by omega] at this
    exact this.symm
  · have := lvls_fix hf' (t - t')
    rw [show t' + (t - t') = t from by omega] at this
    exact this
noncomputable def lvlE (o : List Int) (n : List (List Int)) (who : Int) (sf : List Bool) (m : Nat) : List Int := @Classical.epsilon _ ⟨[]⟩ (isLvl o n who sf m)
theorem isLvl.is {o : List Int} {n : List (List Int)} {who : Int} {sf : List Bool} {m : Nat} {r : List Int} (h : isLvl o n who sf m r) : r = lvlE o n who sf m := h.eq (@Classical.epsilon_spec _ (isLvl o n who sf m) ⟨r, h⟩)
theorem isLvl.len {o : List Int} {n : List (List Int)} {who : Int} {sf : List Bool} {m : Nat} {r : List Int} (h : isLvl o n who sf m r) : r.length = m := by
  obtain ⟨t, rfl, _⟩ := h
  exact lvls_len _ _ _ _ _ _
end Go.Proofs.YtkhkdnmpbfmmeaaGreatDoor
