/- TextAnswer, spec and impl: contracts. -/
import Derived.Test.YtkhkdnmpbfmmeaaDoorLinT
import Derived.Test.YtkhkdnmpbfmmeaaDoorTwoA
import Derived.Test.YtkhkdnmpbfmmeaaDoorCut
import Derived.Test.YtkhkdnmpbfmmeaaDoorAcc
import Derived.Deep.RegionHeld3
import Derived.Deep.DeepCutAuto
namespace Go.Proofs.YtkhkdnmpbfmmeaaDoor
open Go.RowKit

theorem firstI_some {p : Nat → Bool} {k : Nat} (hk : p k = true) : ∀ {n : Nat}, k < n → 0 ≤ firstI p n
  | 0, h => absurd h (by omega)
  | n + 1, h => by
    rw [firstI]
    by_cases e : firstI p n = -1
    · rw [if_pos e]
      by_cases e2 : k = n
      · subst e2; rw [if_pos hk]; omega
      · have := firstI_some hk (show k < n by omega); omega
    · rw [if_neg e]
      by_cases e2 : k = n
      · subst e2
        have := firstI_ge p k
        omega
      · exact firstI_some hk (by omega)
/-- the words of line j; is it a good line -/
def anW (l : List UInt8) (j : Nat) : List (List UInt8) := spl 32 (gx (spl 10 l) j)
def anG (l : List UInt8) (j : Nat) : Bool := decide (j < 256 ∧ (anW l j).length = 2 ∧ 0 ≤ plr (gx (anW l j) 0) ∧ -1 ≤ unm (gx (anW l j) 1))
/-- the first bad line -/
def taF (l : List UInt8) : Int := firstI (fun j => !anG l j) (anN l)
def taE (l : List UInt8) : Int := if 3000 < l.length then -2 else if 0 ≤ taF l then taF l else if mor l = true then (anN l : Int) else -1
def taUp (l : List UInt8) (k : Nat) : TwoD := ((List.range k).map fun j => plr (gx (anW l j) 0), (List.range k).map fun j => unm (gx (anW l j) 1))
def taZ (l : List UInt8) : TwoD := if taE l = -1 then taUp l (anN l) else ([], [])
theorem taUp_succ (l : List UInt8) (k : Nat) : taUp l (k + 1) = ((taUp l k).1 ++ [plr (gx (anW l k) 0)], (taUp l k).2 ++ [unm (gx (anW l k) 1)]) := by
  unfold taUp
  rw [List.range_succ, List.map_append, List.map_append]
  rfl
theorem taUp_l1 (l : List UInt8) (k : Nat) : (taUp l k).1.length = k := by simp [taUp]
theorem taUp_l2 (l : List UInt8) (k : Nat) : (taUp l k).2.length = k := by simp [taUp]
theorem ta_long {l : List UInt8} (h : 3000 < l.length) : taE l = -2 ∧ taZ l = ([], []) := by
  have e : taE l = -2 := by unfold taE; rw [if_pos h]
  exact ⟨e, by unfold taZ; rw [e]; rfl⟩
theorem ta_bad {l : List UInt8} (h : l.length ≤ 3000) {k : Nat} (hk : k < anN l) (hall : ∀ j, j < k → anG l j = true) (hb : anG l k = false) : taE l = (k : Int) ∧ taZ l = ([], []) := by
  have f : taF l = (k : Int) := firstI_hit (by simp [hb]) (fun j hj => by simp [hall j hj]) hk
  have e : taE l = (k : Int) := by unfold taE; rw [if_neg (by omega), f, if_pos (by omega)]
  exact ⟨e, by unfold taZ; rw [e, if_neg (by omega)]⟩
theorem ta_more {l : List UInt8} (h : l.length ≤ 3000) (hall : ∀ j, j < anN l → anG l j = true) (hm : mor l = true) : taE l = (anN l : Int) ∧ taZ l = ([], []) := by
  have f : taF l = -1 := firstI_none (fun j hj => by simp [hall j hj])
  have e : taE l = (anN l : Int) := by unfold taE; rw [if_neg (by omega), f, if_neg (by omega), if_pos hm]
  exact ⟨e, by unfold taZ; rw [e, if_neg (by omega)]⟩
theorem ta_all {l : List UInt8} (h : l.length ≤ 3000) (hall : ∀ j, j < anN l → anG l j = true) (hm : mor l = false) : taE l = -1 ∧ taZ l = taUp l (anN l) := by
  have f : taF l = -1 := firstI_none (fun j hj => by simp [hall j hj])
  have e : taE l = -1 := by unfold taE; rw [if_neg (by omega), f, if_neg (by omega), hm]; rfl
  exact ⟨e, by unfold taZ; rw [if_pos e]⟩
theorem anG_parts {l : List UInt8} {j : Nat} (h : anG l j = true) : j < 256 ∧ (anW l j).length = 2 ∧ 0 ≤ plr (gx (anW l j) 0) ∧ -1 ≤ unm (gx (anW l j) 1) := of_decide_eq_true h
theorem anG_no {l : List UInt8} {j : Nat} (h : ¬ (j < 256 ∧ (anW l j).length = 2 ∧ 0 ≤ plr (gx (anW l j) 0) ∧ -1 ≤ unm (gx (anW l j) 1))) : anG l j = false := decide_eq_false h
theorem ta_few {l : List UInt8} {k : Nat} (h : ∀ j, j < k → anG l j = true) : k ≤ 256 := by
  by_cases e : k = 0
  · omega
  · have := (anG_parts (h (k - 1) (by omega))).1
    omega
theorem taZ_len (l : List UInt8) : (taZ l).1.length ≤ 256 ∧ (taZ l).2.length ≤ 256 := by
  by_cases e : taE l = -1
  · have hz : taZ l = taUp l (anN l) := by unfold taZ; rw [if_pos e]
    have hn : anN l ≤ 256 := ta_few fun j hj => by
      cases hg : anG l j with
      | true => rfl
      | false =>
        exfalso
        unfold taE at e
        by_cases h3 : 3000 < l.length
        · rw [if_pos h3] at e; omega
        · rw [if_neg h3] at e
          have : 0 ≤ taF l := by
            rcases Nat.lt_or_ge (anN l) 1 with h | h
            · omega
            · exact firstI_some (by simp [hg]) hj
          rw [if_pos this] at e
          omega
    rw [hz, taUp_l1, taUp_l2]
    exact ⟨hn, hn⟩
  · have hz : taZ l = ([], []) := by unfold taZ; rw [if_neg e]
    rw [hz]
    exact ⟨by simp, by simp⟩

theorem chg2A (w : World) (b : Nat) (x0 x1 : Value) : Chg (fun x => x = b) w ((w.setCell ⟨b, 0, none⟩ x0).setCell ⟨b, 1, none⟩ x1) := (Chg.set (w := w) ⟨b, 0, none⟩ x0).trans (Chg.set ⟨b, 1, none⟩ x1) (fun _ h => h) (fun _ h => h)
theorem OT.push1 {w w' : World} {lo : Nat} {s0 s1 t0 : Value} {z : TwoD} {xs : List Int} (h : OT w lo s0 s1 z) (hc : Chg (fun b => s0.ownBlock = some b) w w') (h0 : OI 2 w' lo t0 xs) (hat : ∀ b, t0.ownBlock = some b → s0.ownBlock = some b ∨ w.heap.size ≤ b) : OT w' lo t0 s1 (xs, z.2) :=
  ⟨h0, h.2.1.chg hc (fun b hb hs => apart_not h.2.2 hs hb), apart_of fun b h1 h2 => (hat b h1).elim (fun e => apart_not h.2.2 e h2) (fun e => by have := (h.2.1.lt b h2).2; omega)⟩
theorem OT.push2 {w w' : World} {lo : Nat} {s0 s1 t1 : Value} {z : TwoD} {xs : List Int} (h : OT w lo s0 s1 z) (hc : Chg (fun b => s1.ownBlock = some b) w w') (h0 : OI 2 w' lo t1 xs) (hat : ∀ b, t1.ownBlock = some b → s1.ownBlock = some b ∨ w.heap.size ≤ b) : OT w' lo s0 t1 (z.1, xs) :=
  ⟨h.1.chg hc (fun b hb hs => apart_not h.2.2 hb hs), h0, apart_of fun b h1 h2 => (hat b h2).elim (fun e => apart_not h.2.2 h1 e) (fun e => by have := (h.1.lt b h1).2; omega)⟩
theorem Chg.cellT {S : Nat → Prop} {w w' : World} (h : Chg S w w') {p : Addr} {v : Value} (hc : w.cell? p = some v) (hlt : p.block < w.heap.size) (hS : ¬ S p.block) : w'.cell? p = some v := (World.cell?_of_block (w := w) (h.block p.block hlt hS)).trans hc
theorem OT.far {w : World} {lo : Nat} {s0 s1 : Value} {z : TwoD} {p : Addr} (h : OT w lo s0 s1 z) (hp : p.block < lo) (u : Value) : OT (w.setCell p u) lo s0 s1 z := ⟨h.1.far hp u, h.2.1.far hp u, h.2.2⟩
theorem OS.far {w : World} {lo : Nat} {v : Value} {xs : List ByteArray} {p : Addr} (h : OS w lo v xs) (hp : p.block < lo) (u : Value) : OS (w.setCell p u) lo v xs := ownsRow_setCell_below h hp u
theorem gt_impLn {s : ByteArray} {k : Nat} (hk : k < (impLn s).length) : (gt (impLn s) k).data.toList = gx (spl 10 s.data.toList) k := by
  unfold impLn at hk ⊢
  split
  · exact gtd 10 s k
  · rename_i h
    rw [if_neg h, List.length_take] at hk
    rw [gt_take (by omega)]
    exact gtd 10 s k
theorem impLn_len (s : ByteArray) : (impLn s).length = anN s.data.toList + (if mor s.data.toList then 1 else 0) := by
  unfold impLn
  split
  · rw [linesLen]
  · rw [List.length_take, linesLen]; omega
theorem line_small {s : ByteArray} {k : Nat} : (gt (splT 10 s) k).size ≤ s.size := by
  rw [Lib.size_eq, Lib.size_eq, gtd]
  by_cases h : k < (spl 10 s.data.toList).length
  · exact spl_piece (gx_mem h)
  · unfold gx
    rw [List.getD_eq_getElem?_getD, List.getElem?_eq_none (by omega)]
    simp
theorem ta_stop {s : ByteArray} (h3 : s.data.toList.length ≤ 3000) {k : Nat} (hk : k < (impLn s).length) (hall : ∀ j, j < k → anG s.data.toList j = true) (hbad : k < anN s.data.toList → anG s.data.toList k = false) : taE s.data.toList = (k : Int) ∧ taZ s.data.toList = ([], []) := by
  by_cases h : k < anN s.data.toList
  · exact ta_bad h3 h hall (hbad h)
  · have hl := impLn_len s
    cases hm : mor s.data.toList with
    | true =>
      rw [hm, if_pos rfl] at hl
      obtain rfl : k = anN s.data.toList := by omega
      exact ta_more h3 hall hm
    | false =>
      rw [hm, if_neg (by decide)] at hl
      omega
theorem words_len {x : ByteArray} {l : List UInt8} {k : Nat} (h : x.data.toList = gx (spl 10 l) k) : (splT 32 x).length = (anW l k).length := by rw [splT_len, h]; rfl
theorem word_at {x : ByteArray} {l : List UInt8} {k : Nat} (h : x.data.toList = gx (spl 10 l) k) (i : Nat) : (gt (splT 32 x) i).data.toList = gx (anW l k) i := by rw [gtd, h]; rfl

set_option maxRecDepth 100000 in
set_option maxHeartbeats 3200000 in
theorem implTextAnswer (s : ByteArray) (w : World) (B : Nat) (hB : B ≤ w.heap.size) (hP : PN w) (hM : Max w) :
    Calls Tryd.prog 28 #[.string s] w fun e w' => ∃ t0 t1, e = .returned (.tuple #[.agg #[t0, t1], .int .i64 (taE s.data.toList)]) ∧ OT w' B t0 t1 (taZ s.data.toList) ∧ Below B w w' := by
  have HZ := Lib.hid (Lib.size_eq s)
  have bR := Box.new w 27 #[.slice none 0 0, .slice none 0 0]
  have hbR : Below w.heap.size w (w.alloc (.cells #[.slice none 0 0, .slice none 0 0] 27)) := below_alloc (Nat.le_refl _) (Below.refl _ _)
  by_cases h1 : 3000 < s.size
  · have E := Lib.hid (ta_long (l := s.data.toList) (by rw [← HZ.out]; exact h1))
    have F0 := bR.hot 0; have F1 := bR.hot 1
    have R0 := bR.cell 0; have R1 := bR.cell 1
    simp only [List.getElem?_toArray, List.getElem?_cons_zero, List.getElem?_cons_succ] at R0 R1
    go_enter Tryd.func28, Tryd.ntmps28
    go_wp2
    refine bodyPost_ret (v := .tuple #[.agg #[.slice none 0 0, .slice none 0 0], .int .i64 (-2)]) (by simp [results, Tryd.results28, go_sem, R0, R1]) rfl ⟨_, _, by rw [E.out.1], by rw [E.out.2]; exact OT.nil _ _, hbR.mono hB⟩
  replace h1 : s.size ≤ 3000 := by omega
  have hs4 : s.size ≤ 4000000 := by omega
  have HS := Lib.hid (show s.data.toList.length ≤ 3000 by rw [← HZ.out]; exact h1)
  have hbA : Below w.heap.size w ((w.alloc (.cells #[.slice none 0 0, .slice none 0 0] 27)).alloc (.cells #[.slice none 0 0, .slice none 0 0] 27)) := below_alloc (by simp) hbR
  go_enter Tryd.func28, Tryd.ntmps28
  go_wp2_with fail
  refine (implLines s _ _ (Nat.le_refl _) (hM.keep (keeps_below hbA)) hs4).mono ?_; rintro e w1 ⟨v1, rfl, ho1, hb1⟩
  obtain ⟨AL, cL, rfl⟩ := ho1.form
  have hsz1 : w.heap.size + 2 ≤ w1.heap.size := by have := hb1.size; simpa using this
  have bR1 : Box w1 w.heap.size 27 #[.slice none 0 0, .slice none 0 0] := (bR.alloc _).on hb1
  have bA1 : Box w1 (w.heap.size + 1) 27 #[.slice none 0 0, .slice none 0 0] := Box.on (w := (w.alloc (.cells #[.slice none 0 0, .slice none 0 0] 27)).alloc (.cells #[.slice none 0 0, .slice none 0 0] 27)) (Box.new' (by simp)) hb1
  have hw1 : Below w.heap.size w w1 := below_then hb1 hbA.size hbA
  replace ho1 := ho1.more (show w.heap.size + 2 ≤ _ by simp)
  have HGL := Lib.hid (fun k hk => gt_impLn (s := s) (k := k) hk)
  have HLS := Lib.hid (fun k => show (gt (impLn s) k).size ≤ 4000000 from by
    unfold impLn
    split
    · exact Nat.le_trans line_small hs4
    · by_cases hk : k < anN s.data.toList
      · rw [gt_take hk]; exact Nat.le_trans line_small hs4
      · unfold gt
        rw [List.getD_eq_getElem?_getD, List.getElem?_eq_none (by rw [List.length_take]; omega)]
        simp)
  have HLen := Lib.hid (impLn_len s)
  have HST := Lib.hid (fun k (hk : k < (impLn s).length) (ha : ∀ j, j < k → anG s.data.toList j = true) (hb : k < anN s.data.toList → anG s.data.toList k = false) => ta_stop HS.out hk ha hb)
  have HAL := Lib.hid (fun ha hm => ta_all HS.out ha hm)
  generalize impLn s = lns at *
  generalize hl : s.data.toList = l at *
  have HLs := Lib.hid hl
  clear hl
  have hcap := ho1.reads.cap
  have htop := ho1.reads.top
  clear hbA hbR bR hb1 h1
  obtain ⟨bo, hbo⟩ : ∃ b, mor l = b := ⟨_, rfl⟩
  rw [hbo] at HLen ⊢
  have HBO := Lib.hid hbo
  clear hbo
  go_wp2
  go_loopw [25] (fun i wr => ∃ (k : Nat) (A0 : Option Addr) (c0 : Nat) (A1 : Option Addr) (c1 : Nat), k ≤ lns.length ∧ k ≤ anN l ∧ i = .int .i64 k ∧ Hid (∀ j, j < k → anG l j = true) ∧ OT wr (w.heap.size + 2) (.slice A0 k c0) (.slice A1 k c1) (taUp l k) ∧ Box wr (w.heap.size + 1) 27 #[.slice A0 k c0, .slice A1 k c1] ∧ Box wr w.heap.size 27 #[.slice none 0 0, .slice none 0 0] ∧ OS wr (w.heap.size + 2) (.slice AL lns.length cL) lns ∧ Below w.heap.size w wr ∧ w.heap.size + 2 ≤ wr.heap.size) (fun i _ => lns.length - (intOf i).toNat)
  case atStart => exact ⟨0, none, 0, none, 0, Nat.zero_le _, Nat.zero_le _, rfl, Lib.hid (fun j hj => absurd hj (by omega)), OT.nil _ _, bA1, bR1, ho1, hw1, hsz1⟩
  case round =>
    clear bA1 bR1 ho1 hw1 hsz1
    obtain ⟨k, A0, c0, A1, c1, hk, hkN, rfl, HA, ho, bA, bR, hrr, hbr, hsz⟩ := hrel
    by_cases hlt : k < lns.length
    · obtain ⟨bl, ol, hAl, hcl⟩ := (OS.reads hrr).at_ hlt
      subst hAl
      have HG := Lib.hid (HGL.out k hlt)
      have hls := HLS.out k
      have EB := Lib.hid (fun hb => HST.out k hlt HA.out hb)
      generalize gt lns k = x at *
      go_wp2_with fail
      refine (stringsSplit x 32 _ (hM.keep (keeps_below hbr)) hls).mono ?_; rintro e w3 ⟨v3, rfl, ho3, hb3⟩
      obtain ⟨A3, c3, rfl⟩ := ho3.form
      have hR3 := ho3.reads
      have hc3 := hR3.cap; have ht3 := hR3.top
      have HW := Lib.hid (words_len HG.out)
      have HX := Lib.hid (word_at HG.out)
      replace ho := ho.below hb3
      replace bA := bA.on hb3
      replace bR := bR.on hb3
      replace hrr := hrr.below hb3
      have hsz3 : w.heap.size + 2 ≤ w3.heap.size := Nat.le_trans hsz hb3.size
      have hbw3 : Below w.heap.size w w3 := below_then hb3 hbr.size hbr
      have F0 := bR.hot 0; have F1 := bR.hot 1
      have P0 := bR.cell 0; have P1 := bR.cell 1
      simp only [List.getElem?_toArray, List.getElem?_cons_zero, List.getElem?_cons_succ] at P0 P1
      clear hcl hbr
      have e1 : IntKind.i64.wrap ((lns.length : Int) - 1) = (lns.length : Int) - 1 := IntWalk.i64_in _ (by omega)
      generalize (splT 32 x).length = nW at *
      by_cases h256 : 256 ≤ k
      · have h256i : (256 : Int) ≤ (k : Int) := by omega
        have EE := Lib.hid (EB.out (fun _ => anG_no (fun h => absurd h.1 (by omega))))
        clear HA
        go_wp2
        have bx := bR.set2 (.slice none 0 0) (.slice none 0 0)
        have R0 := bx.cell 0; have R1 := bx.cell 1
        simp only [List.getElem?_toArray, List.getElem?_cons_zero, List.getElem?_cons_succ] at R0 R1
        refine bodyPost_ret (v := .tuple #[.agg #[.slice none 0 0, .slice none 0 0], .int .i64 k]) (by simp [results, Tryd.results28, go_sem, R0, R1]) rfl ⟨_, _, by rw [HLs.out, EE.out.1], by rw [HLs.out, EE.out.2]; exact OT.nil _ _, (hbw3.trans ((chg2A _ _ _ _).below (by show w.heap.size ≤ w3.heap.size; omega) (fun x hx => by have h3 : x = w.heap.size := hx; omega))).mono hB⟩
      have h256' : k < 256 := by omega
      by_cases h2n : ¬ nW = 2
      · have h2 := h2n
        have h2i : ((nW : Int) != 2) = true := by rw [bne_iff_ne]; omega
        have EE := Lib.hid (EB.out (fun _ => anG_no (fun h => h2 (by rw [HW.out]; exact h.2.1))))
        clear HA
        go_wp2
        have bx := bR.set2 (.slice none 0 0) (.slice none 0 0)
        have R0 := bx.cell 0; have R1 := bx.cell 1
        simp only [List.getElem?_toArray, List.getElem?_cons_zero, List.getElem?_cons_succ] at R0 R1
        refine bodyPost_ret (v := .tuple #[.agg #[.slice none 0 0, .slice none 0 0], .int .i64 k]) (by simp [results, Tryd.results28, go_sem, R0, R1]) rfl ⟨_, _, by rw [HLs.out, EE.out.1], by rw [HLs.out, EE.out.2]; exact OT.nil _ _, (hbw3.trans ((chg2A _ _ _ _).below (by show w.heap.size ≤ w3.heap.size; omega) (fun x hx => by have h3 : x = w.heap.size := hx; omega))).mono hB⟩
      have h2 : nW = 2 := Decidable.of_not_not h2n
      clear h2n
      subst h2
      have hP3 := hP.keep (keeps_below hbw3)
      obtain ⟨b3, o3, hA3, hk0⟩ := hR3.at_ (show 0 < 2 by omega)
      subst hA3
      obtain ⟨b3', o3', hA3', hk1⟩ := hR3.at_ (show 1 < 2 by omega)
      injection hA3' with hA3'
      injection hA3' with hb3' ho3'
      subst hb3'; subst ho3'
      rw [Nat.add_zero] at hk0
      by_cases hlast : bo = true ∧ k + 1 = lns.length
      · obtain ⟨rfl, hl2⟩ := hlast
        have hli : ((k : Int) == (lns.length : Int) - 1) = true := by rw [beq_iff_eq]; omega
        have hnk : ¬ k < anN l := by have h3 := HLen.out; rw [if_pos rfl] at h3; omega
        have EE := Lib.hid (EB.out (fun h => absurd h hnk))
        clear HA
        go_wp2
        have bx := bR.set2 (.slice none 0 0) (.slice none 0 0)
        have R0 := bx.cell 0; have R1 := bx.cell 1
        simp only [List.getElem?_toArray, List.getElem?_cons_zero, List.getElem?_cons_succ] at R0 R1
        refine bodyPost_ret (v := .tuple #[.agg #[.slice none 0 0, .slice none 0 0], .int .i64 k]) (by simp [results, Tryd.results28, go_sem, R0, R1]) rfl ⟨_, _, by rw [HLs.out, EE.out.1], by rw [HLs.out, EE.out.2]; exact OT.nil _ _, (hbw3.trans ((chg2A _ _ _ _).below (by show w.heap.size ≤ w3.heap.size; omega) (fun x hx => by have h3 : x = w.heap.size := hx; omega))).mono hB⟩
      have HLast : ((k : Int) == (lns.length : Int) - 1) = decide (k + 1 = lns.length) := by rw [Bool.eq_iff_iff, beq_iff_eq, decide_eq_true_iff]; omega
      have hkA : k < anN l := by
        have h3 := HLen.out
        cases bo with
        | true => have h4 : k + 1 ≠ lns.length := fun e => hlast ⟨rfl, e⟩; rw [if_pos rfl] at h3; omega
        | false => rw [if_neg (by decide)] at h3; omega
      have HKA := Lib.hid hkA
      have HNL : Hid (¬ (bo = true ∧ k + 1 = lns.length)) := Lib.hid hlast
      clear hkA hlast
      have hcont : (decide (k + 1 = lns.length) && bo) = false := by
        rw [Bool.and_eq_false_iff]
        by_cases e : bo = true
        · exact .inl (decide_eq_false fun h => HNL.out ⟨e, h⟩)
        · exact .inr (by simpa using e)
      by_cases hl2 : k + 1 = lns.length
      · obtain rfl : bo = false := by cases bo with
          | true => exact absurd ⟨rfl, hl2⟩ HNL.out
          | false => rfl
        have hli : ((k : Int) == (lns.length : Int) - 1) = true := by rw [HLast]; exact decide_eq_true hl2
        clear HLast hcont hl2
        by_cases hpl : 0 ≤ plr (gx (anW l k) 0)
        · by_cases hun : -1 ≤ unm (gx (anW l k) 1)
          · have HPL := Lib.hid hpl; have HUN := Lib.hid hun
            have HRV := Lib.hid (rev_unm hun)
            have HRB := Lib.hid (show reb (gx (anW l k) 1) = true from decide_eq_true hun)
            have HGood : Hid (anG l k = true) := Lib.hid (decide_eq_true ⟨h256', HW.out.symm, HPL.out, HUN.out⟩)
            have HUp := Lib.hid (taUp_succ l k)
            have HT1 := Lib.hid (taUp_l1 l k); have HT2 := Lib.hid (taUp_l2 l k)
            have hpl' : ¬ plr (gx (anW l k) 0) < 0 := by omega
            clear hpl hun
            have C0 := bA.cell 0; have C1 := bA.cell 1
            have G0 := bA.hot 0; have G1 := bA.hot 1
            simp only [List.getElem?_toArray, List.getElem?_cons_zero, List.getElem?_cons_succ] at C0 C1
            have hll1 : (taUp l k).1.length ≤ 4194304 := by rw [HT1.out]; omega
            have hll2 : (taUp l k).2.length ≤ 4194304 := by rw [HT2.out]; omega
            go_wp2_with (first
              | (go_at_call 65; refine (playerOf _ _ (by exact hP3)).mono ?_; rintro e w4 ⟨rfl, q4, rfl⟩; rw [HX.out 0])
              | (go_at_call 60; refine (readEntry _ _).mono ?_; rintro e w5 ⟨rfl, q5, rfl⟩; rw [HX.out 1, HRV.out, HRB.out])
              | (at_builtin
                 refine wpList_pushI rfl (.tmp 72) (.tmp 74) rfl (w3.drewN (q4 + q5)) (w.heap.size + 2) (.slice A0 k c0) (taUp l k).1 rfl ho.1 (plr (gx (anW l k) 0)) rfl hll1 hsz3 ?_
                 intro v6 w6 ho6 hb6 hc6 hat6
                 obtain ⟨A6, c6, hv6⟩ := ho6.form
                 rw [List.length_append, HT1.out, List.length_singleton] at hv6
                 subst hv6
                 have hoA := OT.push1 (w := w3.drewN (q4 + q5)) ho hc6 ho6 hat6
                 have bA6 : Box w6 (w.heap.size + 1) 27 #[.slice A0 k c0, .slice A1 k c1] := (hc6.block _ bA.lt (fun e => by have := (ho.1.lt _ e).1; omega)).trans bA
                 have bR6 : Box w6 w.heap.size 27 #[.slice none 0 0, .slice none 0 0] := (hc6.block _ bR.lt (fun e => by have := (ho.1.lt _ e).1; omega)).trans bR
                 have hrr6 := row_chg (w := w3.drewN (q4 + q5)) hrr hc6 (fun x hx e => own_ne hrr ho.1 (by decide) x hx e)
                 have hsz6 : w.heap.size + 2 ≤ w6.heap.size := Nat.le_trans hsz3 hb6.size
                 have D0 := bA6.cell 0; have D1 := bA6.cell 1
                 have K0 := bA6.hot 0; have K1 := bA6.hot 1
                 simp only [List.getElem?_toArray, List.getElem?_cons_zero, List.getElem?_cons_succ] at D0 D1
                 have hoB := hoA.far (p := ⟨w.heap.size + 1, 0, none⟩) (by show w.heap.size + 1 < w.heap.size + 2; omega) (.slice A6 (k + 1) c6)
                 have bA7 : Box (w6.setCell ⟨w.heap.size + 1, 0, none⟩ (.slice A6 (k + 1) c6)) (w.heap.size + 1) 27 #[.slice A6 (k + 1) c6, .slice A1 k c1] := bA6.set_ 0 (.slice A6 (k + 1) c6)
                 have bR7 : Box (w6.setCell ⟨w.heap.size + 1, 0, none⟩ (.slice A6 (k + 1) c6)) w.heap.size 27 #[.slice none 0 0, .slice none 0 0] := bR6.far (by simp) _
                 have hrr7 := OS.far (p := ⟨w.heap.size + 1, 0, none⟩) hrr6 (by show w.heap.size + 1 < w.heap.size + 2; omega) (.slice A6 (k + 1) c6)
                 have hbw6 : Below w.heap.size w (w6.setCell ⟨w.heap.size + 1, 0, none⟩ (.slice A6 (k + 1) c6)) := Below.setCell ((below_drewN hbw3 (q4 + q5)).trans (hb6.mono (by omega))) (by show w.heap.size ≤ w.heap.size + 1; omega) _)
              | (at_builtin
                 refine wpList_pushHT rfl (.tmp 78) (.tmp 80) rfl (w6.setCell ⟨w.heap.size + 1, 0, none⟩ (.slice A6 (k + 1) c6)) w6.heap.size (by simp) (w.heap.size + 2) (.slice A1 k c1) (taUp l k).2 rfl hoB.2.1 (unm (gx (anW l k) 1)) rfl hll2 hsz6 ?_
                 intro v8 w8 ho8 hb8 hc8 hat8
                 obtain ⟨A8, c8, hv8⟩ := ho8.form
                 rw [List.length_append, HT2.out, List.length_singleton] at hv8
                 subst hv8
                 have hoC := OT.push2 hoB hc8 ho8 hat8
                 have bA8 : Box w8 (w.heap.size + 1) 27 #[.slice A6 (k + 1) c6, .slice A1 k c1] := (hc8.block _ bA7.lt (fun e => by have := (hoB.2.1.lt _ e).1; omega)).trans bA7
                 have bR8 : Box w8 w.heap.size 27 #[.slice none 0 0, .slice none 0 0] := (hc8.block _ bR7.lt (fun e => by have := (hoB.2.1.lt _ e).1; omega)).trans bR7
                 have hrr8 := row_chg hrr7 hc8 (fun x hx e => own_ne hrr7 hoB.2.1 (by decide) x hx e)
                 have hsz8 : w.heap.size + 2 ≤ w8.heap.size := Nat.le_trans hsz6 (Nat.le_trans (by simp) hb8.size)
                 have E0 := bA8.cell 0; have E1 := bA8.cell 1
                 have L0 := bA8.hot 0; have L1 := bA8.hot 1
                 simp only [List.getElem?_toArray, List.getElem?_cons_zero, List.getElem?_cons_succ] at E0 E1))
            go_roundw
            case rel =>
              have hoD := hoC.far (p := ⟨w.heap.size + 1, 1, none⟩) (by show w.heap.size + 1 < w.heap.size + 2; omega) (.slice A8 (k + 1) c8)
              rw [← HUp.out] at hoD
              have hkA1 : k + 1 ≤ anN l := HKA.out
              have hB8 := hb8.mono (show w.heap.size ≤ w.heap.size + 2 by omega)
              first
                | exact ⟨k + 1, A6, c6, A8, c8, by omega, hkA1, by go_num, Lib.hid (all_succ HA.out HGood.out), hoD, bA8.set_ 1 (.slice A8 (k + 1) c8), bR8.far (show w.heap.size ≠ w.heap.size + 1 by omega) _, OS.far (p := ⟨w.heap.size + 1, 1, none⟩) hrr8 (by show w.heap.size + 1 < w.heap.size + 2; omega) _, Below.setCell (p := ⟨w.heap.size + 1, 1, none⟩) (hbw6.trans hB8) (by show w.heap.size ≤ w.heap.size + 1; omega) _, by simpa using hsz8⟩
                | exact ⟨_, _, _, _, _, _, _, .int .i64 ((k : Int) + 1), ⟨k + 1, by omega, hkA1, by go_num, Lib.hid (all_succ HA.out HGood.out), A6, c6, A8, c8, hoD, bA8.set_ 1 (.slice A8 (k + 1) c8), bR8.far (show w.heap.size ≠ w.heap.size + 1 by omega) _, OS.far (p := ⟨w.heap.size + 1, 1, none⟩) hrr8 (by show w.heap.size + 1 < w.heap.size + 2; omega) _, Below.setCell (p := ⟨w.heap.size + 1, 1, none⟩) (hbw6.trans hB8) (by show w.heap.size ≤ w.heap.size + 1; omega) _⟩, rfl, rfl, rfl, rfl, rfl, rfl, rfl, rfl⟩
            case measure => simp [intOf]; omega
          · have HRB := Lib.hid (show reb (gx (anW l k) 1) = false from decide_eq_false hun)
            have hpl' : ¬ plr (gx (anW l k) 0) < 0 := by omega
            have EE := Lib.hid (EB.out (fun _ => anG_no (fun h => hun h.2.2.2)))
            clear HA
            go_wp2_with (first
              | (go_at_call 65; refine (playerOf _ _ (by exact hP3)).mono ?_; rintro e w4 ⟨rfl, q4, rfl⟩; rw [HX.out 0])
              | (go_at_call 60; refine (readEntry _ _).mono ?_; rintro e w5 ⟨rfl, q5, rfl⟩; rw [HX.out 1, HRB.out]))
            have bx := (bR.drewN (q4 + q5)).set2 (.slice none 0 0) (.slice none 0 0)
            have R0 := bx.cell 0; have R1 := bx.cell 1
            simp only [List.getElem?_toArray, List.getElem?_cons_zero, List.getElem?_cons_succ] at R0 R1
            refine bodyPost_ret (v := .tuple #[.agg #[.slice none 0 0, .slice none 0 0], .int .i64 k]) (by simp [results, Tryd.results28, go_sem, R0, R1]) rfl ⟨_, _, by rw [HLs.out, EE.out.1], by rw [HLs.out, EE.out.2]; exact OT.nil _ _, ((below_drewN hbw3 (q4 + q5)).trans ((chg2A _ _ _ _).below (by show w.heap.size ≤ w3.heap.size; omega) (fun x hx => by have h3 : x = w.heap.size := hx; omega))).mono hB⟩
        · have hpl' : plr (gx (anW l k) 0) < 0 := by omega
          have EE := Lib.hid (EB.out (fun _ => anG_no (fun h => hpl h.2.2.1)))
          clear HA
          go_wp2_with (first
            | (go_at_call 65; refine (playerOf _ _ (by exact hP3)).mono ?_; rintro e w4 ⟨rfl, q4, rfl⟩; rw [HX.out 0])
            | (go_at_call 60; refine (readEntry _ _).mono ?_; rintro e w5 ⟨rfl, q5, rfl⟩; rw [HX.out 1]))
          have bx := (bR.drewN (q4 + q5)).set2 (.slice none 0 0) (.slice none 0 0)
          have R0 := bx.cell 0; have R1 := bx.cell 1
          simp only [List.getElem?_toArray, List.getElem?_cons_zero, List.getElem?_cons_succ] at R0 R1
          refine bodyPost_ret (v := .tuple #[.agg #[.slice none 0 0, .slice none 0 0], .int .i64 k]) (by simp [results, Tryd.results28, go_sem, R0, R1]) rfl ⟨_, _, by rw [HLs.out, EE.out.1], by rw [HLs.out, EE.out.2]; exact OT.nil _ _, ((below_drewN hbw3 (q4 + q5)).trans ((chg2A _ _ _ _).below (by show w.heap.size ≤ w3.heap.size; omega) (fun x hx => by have h3 : x = w.heap.size := hx; omega))).mono hB⟩
      · have hli : ((k : Int) == (lns.length : Int) - 1) = false := by rw [HLast]; exact decide_eq_false hl2
        clear HLast hcont hl2
        by_cases hpl : 0 ≤ plr (gx (anW l k) 0)
        · by_cases hun : -1 ≤ unm (gx (anW l k) 1)
          · have HPL := Lib.hid hpl; have HUN := Lib.hid hun
            have HRV := Lib.hid (rev_unm hun)
            have HRB := Lib.hid (show reb (gx (anW l k) 1) = true from decide_eq_true hun)
            have HGood : Hid (anG l k = true) := Lib.hid (decide_eq_true ⟨h256', HW.out.symm, HPL.out, HUN.out⟩)
            have HUp := Lib.hid (taUp_succ l k)
            have HT1 := Lib.hid (taUp_l1 l k); have HT2 := Lib.hid (taUp_l2 l k)
            have hpl' : ¬ plr (gx (anW l k) 0) < 0 := by omega
            clear hpl hun
            have C0 := bA.cell 0; have C1 := bA.cell 1
            have G0 := bA.hot 0; have G1 := bA.hot 1
            simp only [List.getElem?_toArray, List.getElem?_cons_zero, List.getElem?_cons_succ] at C0 C1
            have hll1 : (taUp l k).1.length ≤ 4194304 := by rw [HT1.out]; omega
            have hll2 : (taUp l k).2.length ≤ 4194304 := by rw [HT2.out]; omega
            go_wp2_with (first
              | (go_at_call 65; refine (playerOf _ _ (by exact hP3)).mono ?_; rintro e w4 ⟨rfl, q4, rfl⟩; rw [HX.out 0])
              | (go_at_call 60; refine (readEntry _ _).mono ?_; rintro e w5 ⟨rfl, q5, rfl⟩; rw [HX.out 1, HRV.out, HRB.out])
              | (at_builtin
                 refine wpList_pushI rfl (.tmp 72) (.tmp 74) rfl (w3.drewN (q4 + q5)) (w.heap.size + 2) (.slice A0 k c0) (taUp l k).1 rfl ho.1 (plr (gx (anW l k) 0)) rfl hll1 hsz3 ?_
                 intro v6 w6 ho6 hb6 hc6 hat6
                 obtain ⟨A6, c6, hv6⟩ := ho6.form
                 rw [List.length_append, HT1.out, List.length_singleton] at hv6
                 subst hv6
                 have hoA := OT.push1 (w := w3.drewN (q4 + q5)) ho hc6 ho6 hat6
                 have bA6 : Box w6 (w.heap.size + 1) 27 #[.slice A0 k c0, .slice A1 k c1] := (hc6.block _ bA.lt (fun e => by have := (ho.1.lt _ e).1; omega)).trans bA
                 have bR6 : Box w6 w.heap.size 27 #[.slice none 0 0, .slice none 0 0] := (hc6.block _ bR.lt (fun e => by have := (ho.1.lt _ e).1; omega)).trans bR
                 have hrr6 := row_chg (w := w3.drewN (q4 + q5)) hrr hc6 (fun x hx e => own_ne hrr ho.1 (by decide) x hx e)
                 have hsz6 : w.heap.size + 2 ≤ w6.heap.size := Nat.le_trans hsz3 hb6.size
                 have D0 := bA6.cell 0; have D1 := bA6.cell 1
                 have K0 := bA6.hot 0; have K1 := bA6.hot 1
                 simp only [List.getElem?_toArray, List.getElem?_cons_zero, List.getElem?_cons_succ] at D0 D1
                 have hoB := hoA.far (p := ⟨w.heap.size + 1, 0, none⟩) (by show w.heap.size + 1 < w.heap.size + 2; omega) (.slice A6 (k + 1) c6)
                 have bA7 : Box (w6.setCell ⟨w.heap.size + 1, 0, none⟩ (.slice A6 (k + 1) c6)) (w.heap.size + 1) 27 #[.slice A6 (k + 1) c6, .slice A1 k c1] := bA6.set_ 0 (.slice A6 (k + 1) c6)
                 have bR7 : Box (w6.setCell ⟨w.heap.size + 1, 0, none⟩ (.slice A6 (k + 1) c6)) w.heap.size 27 #[.slice none 0 0, .slice none 0 0] := bR6.far (by simp) _
                 have hrr7 := OS.far (p := ⟨w.heap.size + 1, 0, none⟩) hrr6 (by show w.heap.size + 1 < w.heap.size + 2; omega) (.slice A6 (k + 1) c6)
                 have hbw6 : Below w.heap.size w (w6.setCell ⟨w.heap.size + 1, 0, none⟩ (.slice A6 (k + 1) c6)) := Below.setCell ((below_drewN hbw3 (q4 + q5)).trans (hb6.mono (by omega))) (by show w.heap.size ≤ w.heap.size + 1; omega) _)
              | (at_builtin
                 refine wpList_pushHT rfl (.tmp 78) (.tmp 80) rfl (w6.setCell ⟨w.heap.size + 1, 0, none⟩ (.slice A6 (k + 1) c6)) w6.heap.size (by simp) (w.heap.size + 2) (.slice A1 k c1) (taUp l k).2 rfl hoB.2.1 (unm (gx (anW l k) 1)) rfl hll2 hsz6 ?_
                 intro v8 w8 ho8 hb8 hc8 hat8
                 obtain ⟨A8, c8, hv8⟩ := ho8.form
                 rw [List.length_append, HT2.out, List.length_singleton] at hv8
                 subst hv8
                 have hoC := OT.push2 hoB hc8 ho8 hat8
                 have bA8 : Box w8 (w.heap.size + 1) 27 #[.slice A6 (k + 1) c6, .slice A1 k c1] := (hc8.block _ bA7.lt (fun e => by have := (hoB.2.1.lt _ e).1; omega)).trans bA7
                 have bR8 : Box w8 w.heap.size 27 #[.slice none 0 0, .slice none 0 0] := (hc8.block _ bR7.lt (fun e => by have := (hoB.2.1.lt _ e).1; omega)).trans bR7
                 have hrr8 := row_chg hrr7 hc8 (fun x hx e => own_ne hrr7 hoB.2.1 (by decide) x hx e)
                 have hsz8 : w.heap.size + 2 ≤ w8.heap.size := Nat.le_trans hsz6 (Nat.le_trans (by simp) hb8.size)
                 have E0 := bA8.cell 0; have E1 := bA8.cell 1
                 have L0 := bA8.hot 0; have L1 := bA8.hot 1
                 simp only [List.getElem?_toArray, List.getElem?_cons_zero, List.getElem?_cons_succ] at E0 E1))
            go_roundw
            case rel =>
              have hoD := hoC.far (p := ⟨w.heap.size + 1, 1, none⟩) (by show w.heap.size + 1 < w.heap.size + 2; omega) (.slice A8 (k + 1) c8)
              rw [← HUp.out] at hoD
              have hkA1 : k + 1 ≤ anN l := HKA.out
              have hB8 := hb8.mono (show w.heap.size ≤ w.heap.size + 2 by omega)
              first
                | exact ⟨k + 1, A6, c6, A8, c8, by omega, hkA1, by go_num, Lib.hid (all_succ HA.out HGood.out), hoD, bA8.set_ 1 (.slice A8 (k + 1) c8), bR8.far (show w.heap.size ≠ w.heap.size + 1 by omega) _, OS.far (p := ⟨w.heap.size + 1, 1, none⟩) hrr8 (by show w.heap.size + 1 < w.heap.size + 2; omega) _, Below.setCell (p := ⟨w.heap.size + 1, 1, none⟩) (hbw6.trans hB8) (by show w.heap.size ≤ w.heap.size + 1; omega) _, by simpa using hsz8⟩
                | exact ⟨_, _, _, _, _, _, _, .int .i64 ((k : Int) + 1), ⟨k + 1, by omega, hkA1, by go_num, Lib.hid (all_succ HA.out HGood.out), A6, c6, A8, c8, hoD, bA8.set_ 1 (.slice A8 (k + 1) c8), bR8.far (show w.heap.size ≠ w.heap.size + 1 by omega) _, OS.far (p := ⟨w.heap.size + 1, 1, none⟩) hrr8 (by show w.heap.size + 1 < w.heap.size + 2; omega) _, Below.setCell (p := ⟨w.heap.size + 1, 1, none⟩) (hbw6.trans hB8) (by show w.heap.size ≤ w.heap.size + 1; omega) _⟩, rfl, rfl, rfl, rfl, rfl, rfl, rfl, rfl⟩
            case measure => simp [intOf]; omega
          · have HRB := Lib.hid (show reb (gx (anW l k) 1) = false from decide_eq_false hun)
            have hpl' : ¬ plr (gx (anW l k) 0) < 0 := by omega
            have EE := Lib.hid (EB.out (fun _ => anG_no (fun h => hun h.2.2.2)))
            clear HA
            go_wp2_with (first
              | (go_at_call 65; refine (playerOf _ _ (by exact hP3)).mono ?_; rintro e w4 ⟨rfl, q4, rfl⟩; rw [HX.out 0])
              | (go_at_call 60; refine (readEntry _ _).mono ?_; rintro e w5 ⟨rfl, q5, rfl⟩; rw [HX.out 1, HRB.out]))
            have bx := (bR.drewN (q4 + q5)).set2 (.slice none 0 0) (.slice none 0 0)
            have R0 := bx.cell 0; have R1 := bx.cell 1
            simp only [List.getElem?_toArray, List.getElem?_cons_zero, List.getElem?_cons_succ] at R0 R1
            refine bodyPost_ret (v := .tuple #[.agg #[.slice none 0 0, .slice none 0 0], .int .i64 k]) (by simp [results, Tryd.results28, go_sem, R0, R1]) rfl ⟨_, _, by rw [HLs.out, EE.out.1], by rw [HLs.out, EE.out.2]; exact OT.nil _ _, ((below_drewN hbw3 (q4 + q5)).trans ((chg2A _ _ _ _).below (by show w.heap.size ≤ w3.heap.size; omega) (fun x hx => by have h3 : x = w.heap.size := hx; omega))).mono hB⟩
        · have hpl' : plr (gx (anW l k) 0) < 0 := by omega
          have EE := Lib.hid (EB.out (fun _ => anG_no (fun h => hpl h.2.2.1)))
          clear HA
          go_wp2_with (first
            | (go_at_call 65; refine (playerOf _ _ (by exact hP3)).mono ?_; rintro e w4 ⟨rfl, q4, rfl⟩; rw [HX.out 0])
            | (go_at_call 60; refine (readEntry _ _).mono ?_; rintro e w5 ⟨rfl, q5, rfl⟩; rw [HX.out 1]))
          have bx := (bR.drewN (q4 + q5)).set2 (.slice none 0 0) (.slice none 0 0)
          have R0 := bx.cell 0; have R1 := bx.cell 1
          simp only [List.getElem?_toArray, List.getElem?_cons_zero, List.getElem?_cons_succ] at R0 R1
          refine bodyPost_ret (v := .tuple #[.agg #[.slice none 0 0, .slice none 0 0], .int .i64 k]) (by simp [results, Tryd.results28, go_sem, R0, R1]) rfl ⟨_, _, by rw [HLs.out, EE.out.1], by rw [HLs.out, EE.out.2]; exact OT.nil _ _, ((below_drewN hbw3 (q4 + q5)).trans ((chg2A _ _ _ _).below (by show w.heap.size ≤ w3.heap.size; omega) (fun x hx => by have h3 : x = w.heap.size := hx; omega))).mono hB⟩
    · obtain rfl : k = lns.length := by omega
      have hbo : bo = false := by
        have h3 := HLen.out
        cases bo with
        | true => rw [if_pos rfl] at h3; omega
        | false => rfl
      subst hbo
      have hkn : lns.length = anN l := by have h3 := HLen.out; rw [if_neg (by decide)] at h3; exact h3
      have EE := Lib.hid (HAL.out (by rw [← hkn]; exact HA.out) HBO.out)
      have F0 := bR.hot 0; have F1 := bR.hot 1
      have P0 := bR.cell 0; have P1 := bR.cell 1
      have C0 := bA.cell 0; have C1 := bA.cell 1
      simp only [List.getElem?_toArray, List.getElem?_cons_zero, List.getElem?_cons_succ] at P0 P1 C0 C1
      have HKN := Lib.hid hkn
      clear hkn HA hk hkN
      go_wp2
      have bx := bR.set2 (.slice A0 lns.length c0) (.slice A1 lns.length c1)
      have R0 := bx.cell 0; have R1 := bx.cell 1
      simp only [List.getElem?_toArray, List.getElem?_cons_zero, List.getElem?_cons_succ] at R0 R1
      refine bodyPost_ret (v := .tuple #[.agg #[.slice A0 lns.length c0, .slice A1 lns.length c1], .int .i64 (-1)]) (by simp [results, Tryd.results28, go_sem, R0, R1]) rfl ⟨_, _, by rw [HLs.out, EE.out.1], ?_, (hbr.trans ((chg2A _ _ _ _).below hbr.size (fun x hx => by have h3 : x = w.heap.size := hx; omega))).mono hB⟩
      rw [HLs.out, EE.out.2, ← HKN.out]
      exact ((ho.far (p := ⟨w.heap.size, 0, none⟩) (by show w.heap.size < w.heap.size + 2; omega) _).far (p := ⟨w.heap.size, 1, none⟩) (by show w.heap.size < w.heap.size + 2; omega) _).more (by omega)

set_option maxRecDepth 100000 in
set_option maxHeartbeats 3200000 in
theorem specTextAnswer (s : ByteArray) (w : World) (B : Nat) (hB : B ≤ w.heap.size) :
    Calls Tryd.prog 27 #[.string s] w fun e w' => ∃ t0 t1, e = .returned (.tuple #[.agg #[t0, t1], .int .i64 (taE s.data.toList)]) ∧ OT w' B t0 t1 (taZ s.data.toList) ∧ Below B w w' := by
  have HZ := Lib.hid (Lib.size_eq s)
  have bR := Box.new w 27 #[.slice none 0 0, .slice none 0 0]
  have hbR : Below w.heap.size w (w.alloc (.cells #[.slice none 0 0, .slice none 0 0] 27)) := below_alloc (Nat.le_refl _) (Below.refl _ _)
  by_cases h1 : 3000 < s.size
  · have E := Lib.hid (ta_long (l := s.data.toList) (by rw [← HZ.out]; exact h1))
    have F0 := bR.hot 0; have F1 := bR.hot 1
    have R0 := bR.cell 0; have R1 := bR.cell 1
    simp only [List.getElem?_toArray, List.getElem?_cons_zero, List.getElem?_cons_succ] at R0 R1
    go_enter Tryd.func27, Tryd.ntmps27
    go_wp2
    refine bodyPost_ret (v := .tuple #[.agg #[.slice none 0 0, .slice none 0 0], .int .i64 (-2)]) (by simp [results, Tryd.results27, go_sem, R0, R1]) rfl ⟨_, _, by rw [E.out.1], by rw [E.out.2]; exact OT.nil _ _, hbR.mono hB⟩
  replace h1 : s.size ≤ 3000 := by omega
  have hs4 : s.size ≤ 4000000 := by omega
  have HS := Lib.hid (show s.data.toList.length ≤ 3000 by rw [← HZ.out]; exact h1)
  go_enter Tryd.func27, Tryd.ntmps27
  go_wp2_with fail
  refine (specLines s _ _ (Nat.le_refl _) hs4).mono ?_; rintro e w1 ⟨v1, rfl, ho1, hb1⟩
  obtain ⟨AL, cL, hv1⟩ := ho1.form
  rw [List.length_take, linesLen, Nat.min_eq_left (by omega)] at hv1
  subst hv1
  have hsz1 : w.heap.size + 1 ≤ w1.heap.size := by have := hb1.size; simpa using this
  have bR1 : Box w1 w.heap.size 27 #[.slice none 0 0, .slice none 0 0] := bR.on hb1
  have hw1 : Below w.heap.size w w1 := below_then hb1 hbR.size hbR
  replace ho1 := ho1.more (show w.heap.size + 1 ≤ _ by simp)
  have HGL := Lib.hid (fun k => gtd 10 s k)
  have HLS := Lib.hid (fun k => show (gt (splT 10 s) k).size ≤ 4000000 from Nat.le_trans line_small hs4)
  have HST := Lib.hid (fun k (hk : k < anN s.data.toList) (ha : ∀ j, j < k → anG s.data.toList j = true) (hb : anG s.data.toList k = false) => ta_bad HS.out hk ha hb)
  have HAL := Lib.hid (fun ha hm => ta_all HS.out ha hm)
  have HMO := Lib.hid (fun ha hm => ta_more HS.out ha hm)
  have hlt1 : ((splT 10 s).take (anN s.data.toList)).length = anN s.data.toList := by rw [List.length_take, linesLen, Nat.min_eq_left (by omega)]
  have HTK := Lib.hid (fun k (hk : k < anN s.data.toList) => gt_take (xs := splT 10 s) hk)
  have hcap := ho1.reads.cap
  have htop := ho1.reads.top
  generalize splT 10 s = lns at *
  generalize hl : s.data.toList = l at *
  have HLs := Lib.hid hl
  clear hl hbR bR hb1 h1
  generalize hN : anN l = N at *
  have HN := Lib.hid hN
  obtain ⟨bo, hbo⟩ : ∃ b, mor l = b := ⟨_, rfl⟩
  rw [hbo]
  have HBO := Lib.hid hbo
  have bA1 := Box.new w1 27 #[.slice none 0 0, .slice none 0 0]
  have hbA : Below w1.heap.size w1 (w1.alloc (.cells #[.slice none 0 0, .slice none 0 0] 27)) := below_alloc (Nat.le_refl _) (Below.refl _ _)
  have hLL : ∀ z, (Value.slice AL N cL).ownBlock = some z → z < w1.heap.size := fun z hz => (ho1.lt z hz).2
  replace ho1 := ho1.below hbA
  replace bR1 := bR1.on hbA
  replace hw1 := below_then hbA hw1.size hw1
  have hsA := hbA.size
  have HLL := Lib.hid hLL
  clear hbo hN hbA hLL
  go_wp2
  go_loopw [7] (fun i wr => ∃ (k : Nat) (A0 : Option Addr) (c0 : Nat) (A1 : Option Addr) (c1 : Nat), k ≤ N ∧ i = .int .i64 k ∧ Hid (∀ j, j < k → anG l j = true) ∧ OT wr (w1.heap.size + 1) (.slice A0 k c0) (.slice A1 k c1) (taUp l k) ∧ Box wr w1.heap.size 27 #[.slice A0 k c0, .slice A1 k c1] ∧ Box wr w.heap.size 27 #[.slice none 0 0, .slice none 0 0] ∧ OS wr (w.heap.size + 1) (.slice AL N cL) (lns.take N) ∧ Below w.heap.size w wr ∧ w1.heap.size + 1 ≤ wr.heap.size) (fun i _ => N - (intOf i).toNat)
  case atStart => exact ⟨0, none, 0, none, 0, Nat.zero_le _, rfl, Lib.hid (fun j hj => absurd hj (by omega)), OT.nil _ _, bA1, bR1, ho1, hw1, by simp⟩
  case round =>
    clear bA1 bR1 ho1 hw1
    obtain ⟨k, A0, c0, A1, c1, hk, rfl, HA, ho, bA, bR, hrr, hbr, hsz⟩ := hrel
    by_cases hlt : k < N
    · obtain ⟨bl, ol, hAl, hcl⟩ := (OS.reads hrr).at_ hlt
      rw [HTK.out k hlt] at hcl
      subst hAl
      have HG := Lib.hid (HGL.out k)
      have hls := HLS.out k
      have HBad := Lib.hid (fun hb => HST.out k hlt HA.out hb)
      generalize gt lns k = x at *
      go_wp2_with fail
      refine (l1Split x 32 32 rfl _ _ (Nat.le_refl _) hls).mono ?_; rintro e w3 ⟨v3, rfl, ho3, hb3⟩
      obtain ⟨A3, c3, rfl⟩ := ho3.form
      have hR3 := ho3.reads
      have hc3 := hR3.cap; have ht3 := hR3.top
      have HW := Lib.hid (words_len HG.out)
      have HX := Lib.hid (word_at HG.out)
      replace ho := ho.below hb3
      replace bA := bA.on hb3
      replace bR := bR.on hb3
      replace hrr := hrr.below hb3
      have hsz3 : w1.heap.size + 1 ≤ w3.heap.size := Nat.le_trans hsz hb3.size
      have hbw3 : Below w.heap.size w w3 := below_then hb3 hbr.size hbr
      have F0 := bR.hot 0; have F1 := bR.hot 1
      have P0 := bR.cell 0; have P1 := bR.cell 1
      simp only [List.getElem?_toArray, List.getElem?_cons_zero, List.getElem?_cons_succ] at P0 P1
      clear hcl hbr
      generalize (splT 32 x).length = nW at *
      by_cases h256 : 256 ≤ k
      · have h256i : (256 : Int) ≤ (k : Int) := by omega
        have EE := Lib.hid (HBad.out (anG_no (fun h => absurd h.1 (by omega))))
        clear HA
        go_wp2
        have bx := bR.set2 (.slice none 0 0) (.slice none 0 0)
        have R0 := bx.cell 0; have R1 := bx.cell 1
        simp only [List.getElem?_toArray, List.getElem?_cons_zero, List.getElem?_cons_succ] at R0 R1
        refine bodyPost_ret (v := .tuple #[.agg #[.slice none 0 0, .slice none 0 0], .int .i64 k]) (by simp [results, Tryd.results27, go_sem, R0, R1]) rfl ⟨_, _, by rw [HLs.out, EE.out.1], by rw [HLs.out, EE.out.2]; exact OT.nil _ _, (hbw3.trans ((chg2A _ _ _ _).below (by show w.heap.size ≤ w3.heap.size; omega) (fun x hx => by have h3 : x = w.heap.size := hx; omega))).mono hB⟩
      have h256' : k < 256 := by omega
      by_cases h2n : ¬ nW = 2
      · have h2 := h2n
        have h2i : ((nW : Int) != 2) = true := by rw [bne_iff_ne]; omega
        have EE := Lib.hid (HBad.out (anG_no (fun h => h2 (by rw [HW.out]; exact h.2.1))))
        clear HA
        go_wp2
        have bx := bR.set2 (.slice none 0 0) (.slice none 0 0)
        have R0 := bx.cell 0; have R1 := bx.cell 1
        simp only [List.getElem?_toArray, List.getElem?_cons_zero, List.getElem?_cons_succ] at R0 R1
        refine bodyPost_ret (v := .tuple #[.agg #[.slice none 0 0, .slice none 0 0], .int .i64 k]) (by simp [results, Tryd.results27, go_sem, R0, R1]) rfl ⟨_, _, by rw [HLs.out, EE.out.1], by rw [HLs.out, EE.out.2]; exact OT.nil _ _, (hbw3.trans ((chg2A _ _ _ _).below (by show w.heap.size ≤ w3.heap.size; omega) (fun x hx => by have h3 : x = w.heap.size := hx; omega))).mono hB⟩
      have h2 : nW = 2 := Decidable.of_not_not h2n
      clear h2n
      subst h2
      obtain ⟨b3, o3, hA3, hk0⟩ := hR3.at_ (show 0 < 2 by omega)
      subst hA3
      obtain ⟨b3', o3', hA3', hk1⟩ := hR3.at_ (show 1 < 2 by omega)
      injection hA3' with hA3'
      injection hA3' with hb3' ho3'
      subst hb3'; subst ho3'
      rw [Nat.add_zero] at hk0
      by_cases hpl : 0 ≤ plr (gx (anW l k) 0)
      · by_cases hun : -1 ≤ unm (gx (anW l k) 1)
        · have HPL := Lib.hid hpl; have HUN := Lib.hid hun
          have HGood : Hid (anG l k = true) := Lib.hid (decide_eq_true ⟨h256', HW.out.symm, HPL.out, HUN.out⟩)
          have HUp := Lib.hid (taUp_succ l k)
          have HT1 := Lib.hid (taUp_l1 l k); have HT2 := Lib.hid (taUp_l2 l k)
          have hpl' : ¬ plr (gx (anW l k) 0) < 0 := by omega
          have hun' : ¬ unm (gx (anW l k) 1) < -1 := by omega
          clear hpl hun
          have C0 := bA.cell 0; have C1 := bA.cell 1
          have G0 := bA.hot 0; have G1 := bA.hot 1
          simp only [List.getElem?_toArray, List.getElem?_cons_zero, List.getElem?_cons_succ] at C0 C1
          have hll1 : (taUp l k).1.length ≤ 4194304 := by rw [HT1.out]; omega
          have hll2 : (taUp l k).2.length ≤ 4194304 := by rw [HT2.out]; omega
          go_wp2_with (first
            | (go_at_call 63; refine (l13Player _ _).mono ?_; rintro e w4 ⟨rfl, q4, rfl⟩; rw [HX.out 0])
            | (go_at_call 58; refine (l13Unmark _ _).mono ?_; rintro e w5 ⟨rfl, q5, rfl⟩; rw [HX.out 1]))
          have hb3n : (Value.slice A0 k c0).ownBlock ≠ some b3 := own_ne ho3 ho.1 (by decide) b3 rfl
          have hb3m : (Value.slice A1 k c1).ownBlock ≠ some b3 := own_ne ho3 ho.2.1 (by decide) b3 rfl
          have hb3l := ho3.lt b3 rfl
          have hb3x : b3 ≠ w1.heap.size := by omega
          have hlrr : ∀ z, (Value.slice (some ⟨bl, ol, none⟩) N cL).ownBlock = some z → ¬ z = w1.heap.size := fun z hz e => by have h9 := HLL.out z hz; omega
          obtain ⟨w6, hw6⟩ : ∃ x, x = w3.drewN (q4 + q5) := ⟨_, rfl⟩
          rw [← hw6]
          have o6 : OT w6 (w1.heap.size + 1) (.slice A0 k c0) (.slice A1 k c1) (taUp l k) := by rw [hw6]; exact ho
          have bA6 : Box w6 w1.heap.size 27 #[.slice A0 k c0, .slice A1 k c1] := by rw [hw6]; exact bA
          have bR6 : Box w6 w.heap.size 27 #[.slice none 0 0, .slice none 0 0] := by rw [hw6]; exact bR
          have hrr6 : OS w6 (w.heap.size + 1) (.slice (some ⟨bl, ol, none⟩) N cL) (lns.take N) := by rw [hw6]; exact hrr
          have hbw6 : Below w.heap.size w w6 := by rw [hw6]; exact below_drewN hbw3 _
          have hsz6 : w1.heap.size + 1 ≤ w6.heap.size := by rw [hw6]; exact hsz3
          have j0 : w6.cell? ⟨b3, o3, none⟩ = some (.string (gt (splT 32 x) 0)) := by rw [hw6]; exact hk0
          have j1 : w6.cell? ⟨b3, o3 + 1, none⟩ = some (.string (gt (splT 32 x) 1)) := by rw [hw6]; exact hk1
          have hb36 : b3 < w6.heap.size := World.block_lt_of_cell? w6 _ j0
          clear hw6 ho bA bR hrr hbw3 hsz3 hk0 hk1 C0 C1 G0 G1 F0 F1 P0 P1 hR3 ho3 hb3
          have hown1 : ∀ z, (Value.slice A0 k c0).ownBlock = some z → w1.heap.size + 1 ≤ z := fun z hz => (o6.1.lt z hz).1
          have hown2 : ∀ z, (Value.slice A1 k c1).ownBlock = some z → w1.heap.size + 1 ≤ z := fun z hz => (o6.2.1.lt z hz).1
          have j2 : w6.cell? ⟨w1.heap.size, 0, none⟩ = some (.slice A0 k c0) := bA6.cell 0
          have d0 : ∀ q, (w6.drewN q).cell? ⟨b3, o3, none⟩ = some (.string (gt (splT 32 x) 0)) := fun q => keepDN j0
          have d2 : ∀ q, (w6.drewN q).cell? ⟨w1.heap.size, 0, none⟩ = some (.slice A0 k c0) := fun q => keepDN j2
          have a0 : ∀ q o, ((w6.drewN q).alloc o).cell? ⟨b3, o3, none⟩ = some (.string (gt (splT 32 x) 0)) := fun q o => keepA (keepDN j0)
          have a2 : ∀ q o, ((w6.drewN q).alloc o).cell? ⟨w1.heap.size, 0, none⟩ = some (.slice A0 k c0) := fun q o => keepA (keepDN j2)
          have c2 : ∀ o, (w6.alloc o).cell? ⟨w1.heap.size, 0, none⟩ = some (.slice A0 k c0) := fun o => keepA j2
          go_cut [] (fun wx => Hid (∃ (A8 : Option Addr) (c8 : Nat), OT wx (w1.heap.size + 1) (.slice A8 (k + 1) c8) (.slice A1 k c1) ((taUp l k).1 ++ [plr (gx (anW l k) 0)], (taUp l k).2) ∧ Box wx w1.heap.size 27 #[.slice A8 (k + 1) c8, .slice A1 k c1] ∧ Box wx w.heap.size 27 #[.slice none 0 0, .slice none 0 0] ∧ OS wx (w.heap.size + 1) (.slice (some ⟨bl, ol, none⟩) N cL) (lns.take N) ∧ Below w.heap.size w wx ∧ w1.heap.size + 1 ≤ wx.heap.size ∧ wx.cell? ⟨b3, o3 + 1, none⟩ = some (.string (gt (splT 32 x) 1))))
          case first =>
            go_wp2_with fail
            go_region_law (first
              | (go_simp
                 go_at_call 63
                 refine (l13Player _ _).mono ?_
                 rintro e w7 ⟨rfl, q7, rfl⟩
                 rw [HX.out 0])
              | (refine step_of_list (by rfl) (wp_appI (.tmp 54) (.tmp 59) (by rfl) _ (w1.heap.size + 1) (.slice A0 k c0) (taUp l k).1 (by rfl) (o6.1.below (by repeat (first | with_reducible exact Below.refl _ _ | with_reducible refine Below.drew ?_ | with_reducible refine below_drewN ?_ _ | with_reducible refine below_alloc (Nat.le_refl _) ?_))) (some ⟨w6.heap.size, 0, none⟩) 1 1 [plr (gx (anW l k) 0)] (by rfl) (RI.one1 ((Box.new _ 2 #[.int .i64 (plr (gx (anW l k) 0))]).cell 0)) hll1 (by omega) (by simp; omega) ?_)
                 intro v8 w8 ho8 hb8 hc8 hat8
                 obtain ⟨A8, c8, hv8⟩ := ho8.form
                 rw [List.length_append, HT1.out, List.length_singleton] at hv8
                 subst hv8
                 have hq8 : Chg (fun z => (Value.slice A0 k c0).ownBlock = some z) w6 w8 := Chg.push ((Chg.refl _ w6).then_below (by repeat (first | with_reducible exact Below.refl _ _ | with_reducible refine Below.drew ?_ | with_reducible refine below_drewN ?_ _ | with_reducible refine below_alloc (Nat.le_refl _) ?_)) (Nat.le_refl _)) hc8 (fun _ h => .inl h)
                 have ht8 : ∀ z, (Value.slice A8 (k + 1) c8).ownBlock = some z → (Value.slice A0 k c0).ownBlock = some z ∨ w6.heap.size ≤ z := fun z h => (hat8 z h).imp id (fun h => Nat.le_trans (by simp) h)
                 have hx8 : Below (w1.heap.size + 1) w6 w8 := (Below.mono (by repeat (first | with_reducible exact Below.refl _ _ | with_reducible refine Below.drew ?_ | with_reducible refine below_drewN ?_ _ | with_reducible refine below_alloc (Nat.le_refl _) ?_)) hsz6).trans hb8
                 have o8 := o6.push1 hq8 ho8 ht8
                 have bA8 : Box w8 w1.heap.size 27 #[.slice A0 k c0, .slice A1 k c1] := bA6.below hx8 (by omega)
                 have bR8 : Box w8 w.heap.size 27 #[.slice none 0 0, .slice none 0 0] := bR6.below hx8 (by omega)
                 have hrr8 := row_chg hrr6 hq8 (fun x hx e => own_ne hrr6 o6.1 (by decide) x hx e)
                 have k1 := hq8.cellT j1 hb36 hb3n
                 have E0 := bA8.cell 0; have E1 := bA8.cell 1
                 have L0 := bA8.hot 0
                 simp only [List.getElem?_toArray, List.getElem?_cons_zero, List.getElem?_cons_succ] at E0 E1))
            all_goals
              have hlo9 : (⟨w1.heap.size, 0, none⟩ : Addr).block < w1.heap.size + 1 := by show w1.heap.size < w1.heap.size + 1; omega
              have hsz8 : w1.heap.size + 1 ≤ w8.heap.size := Nat.le_trans hsz6 hx8.size
              go_wp2_with fail; go_meet
              exact Lib.hid ⟨A8, c8, o8.far hlo9 _, bA8.set_ 0 (.slice A8 (k + 1) c8), bR8.far (by show w.heap.size ≠ w1.heap.size; omega) _, row_chg hrr8 (Chg.set _ _) (fun x hx e => hlrr x hx e), Below.setCell (hbw6.trans (hx8.mono (by omega))) (by show w.heap.size ≤ w1.heap.size; omega) _, by simpa using hsz8, by rw [World.cell?_setCell_far w8 _ _ _ (by show w1.heap.size ≠ b3; omega)]; exact k1⟩
          case rest =>
            obtain ⟨A8, c8, o9, bA9, bR9, hrr9, hbw9, hsz9, m1⟩ := hcut.out
            clear hcut o6 bA6 bR6 hrr6 hbw6 j0 j1 j2 d0 d2 a0 a2 c2
            have hb39 : b3 < wc.heap.size := World.block_lt_of_cell? wc _ m1
            have e0 := bA9.cell 0
            have m2 : wc.cell? ⟨w1.heap.size, 1, none⟩ = some (.slice A1 k c1) := bA9.cell 1
            have d0 : ∀ q, (wc.drewN q).cell? ⟨b3, o3 + 1, none⟩ = some (.string (gt (splT 32 x) 1)) := fun q => keepDN m1
            have d2 : ∀ q, (wc.drewN q).cell? ⟨w1.heap.size, 1, none⟩ = some (.slice A1 k c1) := fun q => keepDN m2
            have a0 : ∀ q o, ((wc.drewN q).alloc o).cell? ⟨b3, o3 + 1, none⟩ = some (.string (gt (splT 32 x) 1)) := fun q o => keepA (keepDN m1)
            have a2 : ∀ q o, ((wc.drewN q).alloc o).cell? ⟨w1.heap.size, 1, none⟩ = some (.slice A1 k c1) := fun q o => keepA (keepDN m2)
            go_wp2_with fail
            go_region_law (first
              | (go_simp
                 go_at_call 58
                 refine (l13Unmark _ _).mono ?_
                 rintro e w10 ⟨rfl, q10, rfl⟩
                 rw [HX.out 1])
              | (refine step_of_list (by rfl) (wp_appI (.tmp 63) (.tmp 68) (by rfl) _ (w1.heap.size + 1) (.slice A1 k c1) (taUp l k).2 (by rfl) (o9.2.1.below (by repeat (first | with_reducible exact Below.refl _ _ | with_reducible refine Below.drew ?_ | with_reducible refine below_drewN ?_ _ | with_reducible refine below_alloc (Nat.le_refl _) ?_))) (some ⟨wc.heap.size, 0, none⟩) 1 1 [unm (gx (anW l k) 1)] (by rfl) (RI.one1 ((Box.new _ 2 #[.int .i64 (unm (gx (anW l k) 1))]).cell 0)) hll2 (by omega) (by simp; omega) ?_)
                 intro v11 w11 ho11 hb11 hc11 hat11
                 obtain ⟨A11, c11, hv11⟩ := ho11.form
                 rw [List.length_append, HT2.out, List.length_singleton] at hv11
                 subst hv11
                 have hq11 : Chg (fun z => (Value.slice A1 k c1).ownBlock = some z) wc w11 := Chg.push ((Chg.refl _ wc).then_below (by repeat (first | with_reducible exact Below.refl _ _ | with_reducible refine Below.drew ?_ | with_reducible refine below_drewN ?_ _ | with_reducible refine below_alloc (Nat.le_refl _) ?_)) (Nat.le_refl _)) hc11 (fun _ h => .inl h)
                 have ht11 : ∀ z, (Value.slice A11 (k + 1) c11).ownBlock = some z → (Value.slice A1 k c1).ownBlock = some z ∨ wc.heap.size ≤ z := fun z h => (hat11 z h).imp id (fun h => Nat.le_trans (by simp) h)
                 have hx11 : Below (w1.heap.size + 1) wc w11 := (Below.mono (by repeat (first | with_reducible exact Below.refl _ _ | with_reducible refine Below.drew ?_ | with_reducible refine below_drewN ?_ _ | with_reducible refine below_alloc (Nat.le_refl _) ?_)) hsz9).trans hb11
                 have o11 := o9.push2 hq11 ho11 ht11
                 have bA11 : Box w11 w1.heap.size 27 #[.slice A8 (k + 1) c8, .slice A1 k c1] := bA9.below hx11 (by omega)
                 have bR11 : Box w11 w.heap.size 27 #[.slice none 0 0, .slice none 0 0] := bR9.below hx11 (by omega)
                 have hrr11 := row_chg hrr9 hq11 (fun x hx e => own_ne hrr9 o9.2.1 (by decide) x hx e)
                 have E0 := bA11.cell 0; have E1 := bA11.cell 1
                 have L1 := bA11.hot 1
                 simp only [List.getElem?_toArray, List.getElem?_cons_zero, List.getElem?_cons_succ] at E0 E1))
            all_goals
              have hloA : (⟨w1.heap.size, 1, none⟩ : Addr).block < w1.heap.size + 1 := by show w1.heap.size < w1.heap.size + 1; omega
              have hsz11 : w1.heap.size + 1 ≤ w11.heap.size := Nat.le_trans hsz9 hx11.size
              have hoD := o11.far hloA (.slice A11 (k + 1) c11)
              have bAD : Box (w11.setCell ⟨w1.heap.size, 1, none⟩ (.slice A11 (k + 1) c11)) w1.heap.size 27 #[.slice A8 (k + 1) c8, .slice A11 (k + 1) c11] := bA11.set_ 1 (.slice A11 (k + 1) c11)
              have bRD : Box (w11.setCell ⟨w1.heap.size, 1, none⟩ (.slice A11 (k + 1) c11)) w.heap.size 27 #[.slice none 0 0, .slice none 0 0] := bR11.far (by show w.heap.size ≠ w1.heap.size; omega) _
              have hrrD : OS (w11.setCell ⟨w1.heap.size, 1, none⟩ (.slice A11 (k + 1) c11)) (w.heap.size + 1) (.slice (some ⟨bl, ol, none⟩) N cL) (lns.take N) := row_chg hrr11 (Chg.set _ _) (fun x hx e => hlrr x hx e)
              have hbwD : Below w.heap.size w (w11.setCell ⟨w1.heap.size, 1, none⟩ (.slice A11 (k + 1) c11)) := Below.setCell (hbw9.trans (hx11.mono (by omega))) (by show w.heap.size ≤ w1.heap.size; omega) _
              have hszD : w1.heap.size + 1 ≤ (w11.setCell ⟨w1.heap.size, 1, none⟩ (.slice A11 (k + 1) c11)).heap.size := by simpa using hsz11
              rw [← HUp.out] at hoD
              have HA1 := Lib.hid (all_succ HA.out HGood.out)
              go_wp2
              go_roundw
              case rel =>
                exact ⟨k + 1, A8, c8, A11, c11, by omega, by go_num, HA1, hoD, bAD, bRD, hrrD, hbwD, by first | exact hsz11 | exact hszD⟩
              case measure => simp [intOf]; omega
        · have hpl' : ¬ plr (gx (anW l k) 0) < 0 := by omega
          have hun' : unm (gx (anW l k) 1) < -1 := by omega
          have EE := Lib.hid (HBad.out (anG_no (fun h => hun h.2.2.2)))
          clear HA
          go_wp2_with (first
            | (go_at_call 63; refine (l13Player _ _).mono ?_; rintro e w4 ⟨rfl, q4, rfl⟩; rw [HX.out 0])
            | (go_at_call 58; refine (l13Unmark _ _).mono ?_; rintro e w5 ⟨rfl, q5, rfl⟩; rw [HX.out 1]))
          have bx := (bR.drewN (q4 + q5)).set2 (.slice none 0 0) (.slice none 0 0)
          have R0 := bx.cell 0; have R1 := bx.cell 1
          simp only [List.getElem?_toArray, List.getElem?_cons_zero, List.getElem?_cons_succ] at R0 R1
          refine bodyPost_ret (v := .tuple #[.agg #[.slice none 0 0, .slice none 0 0], .int .i64 k]) (by simp [results, Tryd.results27, go_sem, R0, R1]) rfl ⟨_, _, by rw [HLs.out, EE.out.1], by rw [HLs.out, EE.out.2]; exact OT.nil _ _, ((below_drewN hbw3 (q4 + q5)).trans ((chg2A _ _ _ _).below (by show w.heap.size ≤ w3.heap.size; omega) (fun x hx => by have h3 : x = w.heap.size := hx; omega))).mono hB⟩
      · have hpl' : plr (gx (anW l k) 0) < 0 := by omega
        have EE := Lib.hid (HBad.out (anG_no (fun h => hpl h.2.2.1)))
        clear HA
        go_wp2_with (first
          | (go_at_call 63; refine (l13Player _ _).mono ?_; rintro e w4 ⟨rfl, q4, rfl⟩; rw [HX.out 0])
          | (go_at_call 58; refine (l13Unmark _ _).mono ?_; rintro e w5 ⟨rfl, q5, rfl⟩; rw [HX.out 1]))
        have bx := (bR.drewN (q4)).set2 (.slice none 0 0) (.slice none 0 0)
        have R0 := bx.cell 0; have R1 := bx.cell 1
        simp only [List.getElem?_toArray, List.getElem?_cons_zero, List.getElem?_cons_succ] at R0 R1
        refine bodyPost_ret (v := .tuple #[.agg #[.slice none 0 0, .slice none 0 0], .int .i64 k]) (by simp [results, Tryd.results27, go_sem, R0, R1]) rfl ⟨_, _, by rw [HLs.out, EE.out.1], by rw [HLs.out, EE.out.2]; exact OT.nil _ _, ((below_drewN hbw3 (q4)).trans ((chg2A _ _ _ _).below (by show w.heap.size ≤ w3.heap.size; omega) (fun x hx => by have h3 : x = w.heap.size := hx; omega))).mono hB⟩
    · obtain rfl : k = N := by omega
      have F0 := bR.hot 0; have F1 := bR.hot 1
      have P0 := bR.cell 0; have P1 := bR.cell 1
      have C0 := bA.cell 0; have C1 := bA.cell 1
      simp only [List.getElem?_toArray, List.getElem?_cons_zero, List.getElem?_cons_succ] at P0 P1 C0 C1
      cases bo with
      | true =>
        have EE := Lib.hid (HMO.out HA.out HBO.out)
        clear HA hk
        go_wp2
        have bx := bR.set2 (.slice none 0 0) (.slice none 0 0)
        have R0 := bx.cell 0; have R1 := bx.cell 1
        simp only [List.getElem?_toArray, List.getElem?_cons_zero, List.getElem?_cons_succ] at R0 R1
        exact bodyPost_ret (v := .tuple #[.agg #[.slice none 0 0, .slice none 0 0], .int .i64 k]) (by simp [results, Tryd.results27, go_sem, R0, R1]) rfl ⟨_, _, by rw [HLs.out, EE.out.1], by rw [HLs.out, EE.out.2]; exact OT.nil _ _, (hbr.trans ((chg2A _ _ _ _).below hbr.size (fun x hx => by have h3 : x = w.heap.size := hx; omega))).mono hB⟩
      | false =>
        have EE := Lib.hid (HAL.out HA.out HBO.out)
        clear HA hk
        go_wp2
        have bx := bR.set2 (.slice A0 k c0) (.slice A1 k c1)
        have R0 := bx.cell 0; have R1 := bx.cell 1
        simp only [List.getElem?_toArray, List.getElem?_cons_zero, List.getElem?_cons_succ] at R0 R1
        refine bodyPost_ret (v := .tuple #[.agg #[.slice A0 k c0, .slice A1 k c1], .int .i64 (-1)]) (by simp [results, Tryd.results27, go_sem, R0, R1]) rfl ⟨_, _, by rw [HLs.out, EE.out.1], ?_, (hbr.trans ((chg2A _ _ _ _).below hbr.size (fun x hx => by have h3 : x = w.heap.size := hx; omega))).mono hB⟩
        rw [HLs.out, EE.out.2]
        have hsw := hsz1
        exact ((ho.far (p := ⟨w.heap.size, 0, none⟩) (by show w.heap.size < w1.heap.size + 1; omega) _).far (p := ⟨w.heap.size, 1, none⟩) (by show w.heap.size < w1.heap.size + 1; omega) _).more (by omega)
end Go.Proofs.YtkhkdnmpbfmmeaaDoor
