/- StaysPlan: spec and impl. -/
import Derived.Test.YtfjhkjikfjpnpaaLevels4
import Derived.Test.YtfjhkjikfjpnpaaPlan3
namespace Go.Proofs.Ytfjhkjikfjpnpaa
open Go.RowKit

/-- the first that is allowed, of p from j on -/
def firstR (al : Nat → Bool) (ns : List Int) (j : Nat) : Nat → Int
  | 0 => -1
  | p + 1 => if al (gi ns j).toNat = true then gi ns j else firstR al ns (j + 1) p
theorem firstR_eq {al : Nat → Bool} {ns : List Int} (h : ∀ j, 0 ≤ gi ns j) : ∀ (p j : Nat), firstU al ns (j + p) = if 0 ≤ firstU al ns j then firstU al ns j else firstR al ns j p
  | 0, j => by
    split
    · rfl
    · rename_i hn
      have : firstU al ns j = -1 := by
        cases j with
        | zero => rfl
        | succ j =>
          unfold firstU at hn ⊢
          split
          · rename_i h1
            rw [if_pos h1] at hn
            split
            · rename_i h2
              rw [if_pos h2] at hn
              exact absurd (h j) hn
            · rfl
          · rename_i h1
            rw [if_neg h1] at hn
            omega
      exact this
  | p + 1, j => by
    rw [show j + (p + 1) = (j + 1) + p by omega, firstR_eq h p (j + 1)]
    by_cases h1 : 0 ≤ firstU al ns j
    · rw [if_pos h1]
      have e : firstU al ns (j + 1) = firstU al ns j := by rw [firstU, if_neg (by omega)]
      rw [e, if_pos h1]
    · rw [if_neg h1]
      by_cases h2 : al (gi ns j).toNat = true
      · have e : firstU al ns (j + 1) = gi ns j := by rw [firstU, if_pos (by omega), if_pos h2]
        rw [e, if_pos (h j), firstR, if_pos h2]
      · have e : firstU al ns (j + 1) = -1 := by rw [firstU, if_pos (by omega), if_neg h2]
        rw [e, if_neg (by omega), firstR, if_neg h2]
theorem firstR_all {al : Nat → Bool} {ns : List Int} (h : ∀ j, 0 ≤ gi ns j) (n : Nat) : firstR al ns 0 n = firstU al ns n := by
  have := firstR_eq (al := al) h n 0
  rw [Nat.zero_add] at this
  rw [this, if_neg (by simp [firstU])]
theorem firstR_hit {al : Nat → Bool} {ns : List Int} {j p m : Nat} (hm : gi ns j = (m : Int)) (h : al m = true) : firstR al ns j (p + 1) = (m : Int) := by rw [firstR, hm, Int.toNat_natCast, if_pos h]
theorem firstR_miss {al : Nat → Bool} {ns : List Int} {j p m : Nat} (hm : gi ns j = (m : Int)) (h : al m = false) : firstR al ns j (p + 1) = firstR al ns (j + 1) p := by rw [firstR, hm, Int.toNat_natCast, if_neg (by rw [h]; simp)]
theorem gi_nonneg {s : List Int} {n : Int} (h : setB s n = true) (j : Nat) : 0 ≤ gi s j := by
  rcases Nat.lt_or_ge j s.length with hj | hj
  · exact (setB_true.1 h j hj).1
  · simp [gi, List.getElem?_eq_none hj]

def alLess (L : List Int) (v u : Nat) : Bool := gb (lowM L) u && decide (gi L u < gi L v)
def alSame (L : List Int) (v u : Nat) : Bool := gi L u == gi L v
def planV (o : List Int) (n : List (List Int)) (who : Int) (L : List Int) (v : Nat) : Int := if leastV o n who (lowM L) (alLess L) v < 0 then leastV o n who (lowM L) (alSame L) v else leastV o n who (lowM L) (alLess L) v
noncomputable def staysPlanR (o : List Int) (n : List (List Int)) (who : Int) (s : List Int) : List Int := if okA o n who s = true then fill (planV o n who (levelsL o n who s)) o.length else []
theorem staysPlanR_len (z : ArD) (who : Int) (s : List Int) : (staysPlanR z.1 z.2 who s).length ≤ 256 := by
  unfold staysPlanR
  split
  · rename_i h
    have := (fineAr_of (okA_parts h).1).2.1
    rw [fill_len]
    exact this
  · simp

set_option maxRecDepth 100000 in
theorem spFn1 (A D : Option Addr) (n0 c d : Nat) (L : List Int) (v u b1 b2 : Nat) (w : World) (h1 : w.cell? ⟨b1, 0, none⟩ = some (.slice D n0 d)) (h2 : w.cell? ⟨b2, 0, none⟩ = some (.slice A n0 c)) (hm : RB w D n0 d (lowM L)) (hL : RI w A n0 c L) (hv : v < n0) (hu : u < n0) :
    Calls Try.prog 105 #[.int .i64 (v : Int), .int .i64 (u : Int), .pointer (some ⟨b1, 0, none⟩), .pointer (some ⟨b2, 0, none⟩)] w fun e w' => e = .returned (.bool (alLess L v u)) ∧ Below w.heap.size w w' := by
  obtain ⟨bD, oD, rfl, hcD⟩ := hm.at_ hu
  obtain ⟨bA, oA, rfl, hcu⟩ := hL.at_ hu
  obtain ⟨bA2, oA2, hA2, hcv⟩ := hL.at_ hv
  injection hA2 with hA2
  injection hA2 with hA3 hA4
  subst hA3; subst hA4
  have hvi : (v : Int) < (n0 : Int) := by omega
  have hui : (u : Int) < (n0 : Int) := by omega
  have hv0 : (0 : Int) ≤ (v : Int) := by omega
  have hu0 : (0 : Int) ≤ (u : Int) := by omega
  cases hg : gb (lowM L) u with
  | false =>
    have E := Lib.hid (show alLess L v u = false by unfold alLess; rw [hg]; rfl)
    rw [hg] at hcD
    clear hg
    go_enter Try.func105, Try.ntmps105
    go_wp2
    go_quiet (fail)
    go_wp2
    go_ret
    exact ⟨ret_b E.out.symm, by repeat (first | with_reducible assumption | with_reducible exact Below.refl _ _ | with_reducible refine below_drewN ?_ _ | with_reducible refine Below.drew ?_ | with_reducible refine below_alloc (Nat.le_refl _) ?_)⟩
  | true =>
    have E := Lib.hid (show alLess L v u = decide (gi L u < gi L v) by unfold alLess; rw [hg]; rfl)
    rw [hg] at hcD
    clear hg
    go_enter Try.func105, Try.ntmps105
    go_wp2
    go_quiet (fail)
    go_wp2
    go_ret
    exact ⟨ret_b E.out.symm, by repeat (first | with_reducible assumption | with_reducible exact Below.refl _ _ | with_reducible refine below_drewN ?_ _ | with_reducible refine Below.drew ?_ | with_reducible refine below_alloc (Nat.le_refl _) ?_)⟩
theorem spFn1_enter (args : Array Value) (w : World) : (callFunc 105 args).run Try.prog w = .ok (.enter 105 args) w := by kernel_rfl
set_option maxRecDepth 100000 in
theorem spFn2 (A : Option Addr) (n0 c : Nat) (L : List Int) (v u b2 : Nat) (w : World) (h2 : w.cell? ⟨b2, 0, none⟩ = some (.slice A n0 c)) (hL : RI w A n0 c L) (hv : v < n0) (hu : u < n0) :
    Calls Try.prog 106 #[.int .i64 (v : Int), .int .i64 (u : Int), .pointer (some ⟨b2, 0, none⟩)] w fun e w' => e = .returned (.bool (alSame L v u)) ∧ Below w.heap.size w w' := by
  obtain ⟨bA, oA, rfl, hcu⟩ := hL.at_ hu
  obtain ⟨bA2, oA2, hA2, hcv⟩ := hL.at_ hv
  injection hA2 with hA2
  injection hA2 with hA3 hA4
  subst hA3; subst hA4
  have hvi : (v : Int) < (n0 : Int) := by omega
  have hui : (u : Int) < (n0 : Int) := by omega
  have hv0 : (0 : Int) ≤ (v : Int) := by omega
  have hu0 : (0 : Int) ≤ (u : Int) := by omega
  go_enter Try.func106, Try.ntmps106
  go_wp2
  go_quiet (fail)
  go_wp2
  go_ret
  exact ⟨rfl, by repeat (first | with_reducible assumption | with_reducible exact Below.refl _ _ | with_reducible refine below_drewN ?_ _ | with_reducible refine Below.drew ?_ | with_reducible refine below_alloc (Nat.le_refl _) ?_)⟩
theorem spFn2_enter (args : Array Value) (w : World) : (callFunc 106 args).run Try.prog w = .ok (.enter 106 args) w := by kernel_rfl


set_option maxRecDepth 100000 in
set_option maxHeartbeats 1600000 in
theorem implStaysPlan (s0 s1 : Value) (z : ArD) (who : Int) (C : Option Addr) (m d : Nat) (s : List Int) (w : World) (B : Nat) (hB : B ≤ w.heap.size) (ha : RAv w s0 s1 z.1 z.2) (hs : RI w C m d s) :
    Calls Try.prog 38 #[.agg #[s0, s1], .int .i64 who, .slice C m d] w fun e w' => ∃ v, e = .returned v ∧ OI 2 w' B v (staysPlanR z.1 z.2 who s) ∧ Below B w w' := by
  have hmf : ∀ (fn : Fn) (first cap : Array Value) (w : World), (Instr.makeFunc fn first cap).run Try.prog w = .ok (.func fn first cap) w := fun _ _ _ _ => rfl
  obtain ⟨A0, n0, c0, A1, n1, c1, rfl, rfl⟩ := ha.form
  have hr := ha.ri; have hrr := ha.rii
  have HL := Lib.hid hr.len
  have hba : Below w.heap.size w (w.alloc (.cells #[.slice A0 n0 c0, .slice A1 n1 c1] 42)) := below_alloc (Nat.le_refl _) (Below.refl _ _)
  have bx := Box.new w 42 #[.slice A0 n0 c0, .slice A1 n1 c1]
  have q0 := bx.d0; have q1 := bx.d1
  cases h : okA z.1 z.2 who s with
  | false =>
    have E := Lib.hid (show staysPlanR z.1 z.2 who s = [] from if_neg (by rw [h]; simp))
    go_enter Try.func38, Try.ntmps38
    go_wp2_with fail
    refine (canAttract _ _ _ _ _ _ _ _ _ _ _ _ _ _ _ (Nat.le_refl _) (hr.keep (keeps_below hba)) (hrr.keep (keeps_below hba)) (hs.keep (keeps_below hba))).mono ?_; rintro e w1 ⟨rfl, hb1'⟩
    have hb1 := below_then hb1' hba.size hba
    go_wp2
    go_ret
    exact ⟨_, rfl, by rw [E.out]; exact OI.nil _ _ _, hb1.mono hB⟩
  | true =>
    obtain ⟨h1, h2, h3⟩ := okA_parts h
    have E := Lib.hid (show staysPlanR z.1 z.2 who s = fill (planV z.1 z.2 who (levelsL z.1 z.2 who s)) n0 from (if_pos h).trans (by rw [HL.out]))
    have HF := Lib.hid (fineAr_of h1)
    have hm0 : 0 < n0 := by have := HF.out.1; rw [HL.out] at this; omega
    have hn0 : n0 ≤ 256 := by have := HF.out.2.1; rw [HL.out] at this; omega
    have hll : (levelsL z.1 z.2 who s).length = n0 := by rw [levelsL_len, HL.out]
    clear h1 h2
    go_enter Try.func38, Try.ntmps38
    go_wp2_with fail
    refine (canAttract _ _ _ _ _ _ _ _ _ _ _ _ _ _ _ (Nat.le_refl _) (hr.keep (keeps_below hba)) (hrr.keep (keeps_below hba)) (hs.keep (keeps_below hba))).mono ?_; rintro e w1 ⟨rfl, hb1'⟩
    have hw := below_then hb1' hba.size hba
    replace bx := bx.below hb1' bx.lt
    clear q0 q1
    have q0 := bx.d0; have q1 := bx.d1
    go_wp2_with fail
    refine (staysLevels _ _ _ _ _ _ _ _ _ _ _ _ _ _ _ (Nat.le_refl _) (hr.keep (keeps_below hw)) (hrr.keep (keeps_below hw)) (hs.keep (keeps_below hw)) HF.out h3).mono ?_; rintro e w2 ⟨v, rfl, ho, hb2⟩
    obtain ⟨gL, cL, rfl⟩ := ho.form2 (by omega)
    rw [hll] at ho ⊢
    have hgL : w1.heap.size ≤ gL ∧ gL < w2.heap.size := ho.lt gL rfl
    have hz1 := bx.lt
    replace bx := bx.below hb2 bx.lt
    replace hw := below_then hb2 hw.size hw
    have HLL := Lib.hid hll
    generalize hGL : (levelsL z.1 z.2 who s) = L at *
    have HGL := Lib.hid hGL
    clear hll hGL q0 q1 hba hb1' hb2
    have hbA : Below w2.heap.size w2 (w2.alloc (.cells #[.slice (some ⟨gL, 0, none⟩) n0 cL] 29)) := below_alloc (Nat.le_refl _) (Below.refl _ _)
    have bl := Box.new w2 29 #[.slice (some ⟨gL, 0, none⟩) n0 cL]
    have hzA : (w2.alloc (.cells #[.slice (some ⟨gL, 0, none⟩) n0 cL] 29)).heap.size = w2.heap.size + 1 := by simp
    have q2 : (w2.alloc (.cells #[.slice (some ⟨gL, 0, none⟩) n0 cL] 29)).cell? ⟨w2.heap.size, 0, none⟩ = some (.slice (some ⟨gL, 0, none⟩) n0 cL) := bl.cell 0
    go_wp2_with (refine wpList_makeB rfl (.tmp 25) rfl _ n0 rfl (by omega) ?_; intro w3 hin hb3; rw [hzA] at hin; (try rw [hzA]); have q3 : ∀ o, (w3.alloc o).cell? ⟨w2.heap.size, 0, none⟩ = some (.slice (some ⟨gL, 0, none⟩) n0 cL) := fun o => keepA ((bl.below hb3 bl.lt).cell 0))
    clear q3
    have hbB := below_then hb3 hbA.size hbA
    replace ho := ho.below hbB
    replace bl := bl.below hb3 bl.lt
    replace bx := bx.below hbB bx.lt
    replace hw := below_then hbB hw.size hw
    have hz3 : w2.heap.size + 1 < w3.heap.size := (hin.lt _ rfl).2
    clear hbA hzA q2 hb3 hbB
    have hbC : Below w3.heap.size w3 (w3.alloc (.cells #[.slice (some ⟨w2.heap.size + 1, 0, none⟩) n0 n0] 104)) := below_alloc (Nat.le_refl _) (Below.refl _ _)
    have bi := Box.new w3 104 #[.slice (some ⟨w2.heap.size + 1, 0, none⟩) n0 n0]
    replace ho := (ho.below hbC).more (lo' := w.heap.size + 1) (by omega)
    replace bl := bl.below hbC bl.lt
    replace bx := bx.below hbC bx.lt
    replace hin := (hin.below hbC).more (lo' := w.heap.size + 1) (by omega)
    replace hw := below_then hbC hw.size hw
    generalize (w3.alloc (.cells #[.slice (some ⟨w2.heap.size + 1, 0, none⟩) n0 n0] 104)) = W at *
    clear hbC
    obtain ⟨hgLa, hgLb⟩ := hgL
    generalize w3.heap.size = bI at *
    generalize w2.heap.size = bL at *
    go_loopw [29] (fun i wr => ∃ j : Nat, j ≤ n0 ∧ i = .int .i64 j ∧ OB 4 wr (w.heap.size + 1) (.slice (some ⟨bL + 1, 0, none⟩) n0 n0) (fillB (fun q => decide (0 ≤ gi L q)) n0 j) ∧ OI 2 wr (w.heap.size + 1) (.slice (some ⟨gL, 0, none⟩) n0 cL) L ∧ Box wr bL 29 #[.slice (some ⟨gL, 0, none⟩) n0 cL] ∧ Box wr bI 104 #[.slice (some ⟨bL + 1, 0, none⟩) n0 n0] ∧ Box wr w.heap.size 42 #[.slice A0 n0 c0, .slice A1 n1 c1] ∧ Below w.heap.size w wr) (fun i _ => n0 - (intOf i).toNat)
    case atStart => exact ⟨0, Nat.zero_le _, rfl, by rw [fillB_zero]; exact hin, ho, bl, bi, bx, hw⟩
    case round =>
      clear hin ho bl bi bx hw
      obtain ⟨j, hj, rfl, hin, ho, bl, bi, bx, hw⟩ := hrel
      by_cases hlt : j < n0
      · have hco := ho.cellAt (i := j) (by rw [HLL.out]; exact hlt)
        have hcx := hin.atx (i := j) (by rw [fillB_len]; exact hlt)
        have hfx := hin.hot (i := j) (by rw [fillB_len])
        have q2 : wr.cell? ⟨bI, 0, none⟩ = some (.slice (some ⟨bL + 1, 0, none⟩) n0 n0) := bi.cell 0
        have HX := Lib.hid (fillB_put (f := fun q => decide (0 ≤ gi L q)) hlt)
        go_wp2
        go_roundw
        case rel =>
          exact ⟨j + 1, by omega, by go_num, by rw [← HX.out]; exact hin.set_ (by rw [fillB_len]) _, ho.off (by show gL ≠ bL + 1; omega) _, bl.far (by show bL ≠ bL + 1; omega) _, bi.far (by show bI ≠ bL + 1; omega) _, bx.far (by show w.heap.size ≠ bL + 1; omega) _, below_set (by show w.heap.size ≤ bL + 1; omega) hw⟩
        case measure => simp [intOf]; omega
      · obtain rfl : j = n0 := by omega
        rw [lowM_fill HLL.out] at hin
        have q0 := bx.d0; have q1 := bx.d1
        have q2 : wr.cell? ⟨bI, 0, none⟩ = some (.slice (some ⟨bL + 1, 0, none⟩) j j) := bi.cell 0
        go_wp2_with fail
        clear q0 q1 q2
        have HGS := firstMoves (alLess L) 105 #[.pointer (some ⟨bI, 0, none⟩), .pointer (some ⟨bL, 0, none⟩)] A0 A1 (some ⟨bL + 1, 0, none⟩) j c0 n1 c1 j j z.1 z.2 who (lowM L) wr _ (Nat.le_refl _) (hr.keep (keeps_below hw)) (hrr.keep (keeps_below hw)) hin.reads HF.out rfl spFn1_enter (fun w' v u hbw hv hu => spFn1 _ _ j cL j L v u bI bL w' ((bi.below hbw bi.lt).cell 0) ((bl.below hbw bl.lt).cell 0) (hin.reads.keep (keeps_below hbw)) (ho.reads.keep (keeps_below hbw)) hv hu)
        refine HGS.mono ?_
        clear HGS
        rintro e w5 ⟨v5, rfl, h5, hb5⟩
        have hl5 : (planL z.1 z.2 who (lowM L) (alLess L)).length = j := by unfold planL; rw [fill_len, HL.out]
        obtain ⟨g5, c5, rfl⟩ := h5.form2 (by omega)
        rw [hl5] at h5 ⊢
        have hg5 : wr.heap.size ≤ g5 ∧ g5 < w5.heap.size := h5.lt g5 rfl
        have hz5 := bi.lt
        replace hin := hin.below hb5
        replace ho := ho.below hb5
        replace bl := bl.below hb5 bl.lt
        replace bi := bi.below hb5 bi.lt
        replace bx := bx.below hb5 bx.lt
        replace hw := below_then hb5 hw.size hw
        clear hb5
        have q0 := bx.d0; have q1 := bx.d1
        have q2 : w5.cell? ⟨bI, 0, none⟩ = some (.slice (some ⟨bL + 1, 0, none⟩) j j) := bi.cell 0
        go_wp2_with fail
        clear q0 q1 q2
        have HGS := firstMoves (alSame L) 106 #[.pointer (some ⟨bL, 0, none⟩)] A0 A1 (some ⟨bL + 1, 0, none⟩) j c0 n1 c1 j j z.1 z.2 who (lowM L) w5 _ (Nat.le_refl _) (hr.keep (keeps_below hw)) (hrr.keep (keeps_below hw)) hin.reads HF.out rfl spFn2_enter (fun w' v u hbw hv hu => spFn2 _ j cL L v u bL w' ((bl.below hbw bl.lt).cell 0) (ho.reads.keep (keeps_below hbw)) hv hu)
        refine HGS.mono ?_
        clear HGS
        rintro e w6 ⟨v6, rfl, h6, hb6⟩
        have hl6 : (planL z.1 z.2 who (lowM L) (alSame L)).length = j := by unfold planL; rw [fill_len, HL.out]
        obtain ⟨g6, c6, rfl⟩ := h6.form2 (by omega)
        rw [hl6] at h6 ⊢
        have hg6 : w5.heap.size ≤ g6 := (h6.lt g6 rfl).1
        replace h5 := h5.below hb6
        replace hw := below_then hb6 hw.size hw
        obtain ⟨hg5a, hg5b⟩ := hg5
        have hw1 : w.heap.size ≤ wr.heap.size := by omega
        have H5 := Lib.hid (show planL z.1 z.2 who (lowM L) (alLess L) = fillUp (planV z.1 z.2 who L) j (leastV z.1 z.2 who (lowM L) (alLess L)) 0 by unfold planL; rw [fillUp_zero, HL.out])
        rw [H5.out] at h5
        replace h5 := h5.more (lo' := w.heap.size) (by omega)
        replace h6 := h6.more (lo' := w.heap.size) (by omega)
        clear hin ho bl bi bx hb6
        go_wp2
        go_loopw [52] (fun i wq => ∃ k : Nat, k ≤ j ∧ i = .int .i64 k ∧ OI 2 wq w.heap.size (.slice (some ⟨g5, 0, none⟩) j c5) (fillUp (planV z.1 z.2 who L) j (leastV z.1 z.2 who (lowM L) (alLess L)) k) ∧ OI 2 wq w.heap.size (.slice (some ⟨g6, 0, none⟩) j c6) (planL z.1 z.2 who (lowM L) (alSame L)) ∧ Below w.heap.size w wq) (fun i _ => j - (intOf i).toNat)
        case atStart => exact ⟨0, Nat.zero_le _, rfl, h5, h6, hw⟩
        case round =>
          clear h5 h6 hw
          obtain ⟨k, hk, rfl, h5, h6, hw⟩ := hrel
          by_cases hlt : k < j
          · have hc5 := h5.cellAt (i := k) (by rw [fillUp_len]; exact hlt)
            have hf5 := h5.hot (i := k) (by rw [fillUp_len])
            have hc6 := h6.cellAt (i := k) (by rw [hl6]; exact hlt)
            rw [fillUp_at hlt, if_neg (Nat.lt_irrefl _)] at hc5
            have h6e : gi (planL z.1 z.2 who (lowM L) (alSame L)) k = leastV z.1 z.2 who (lowM L) (alSame L) k := by unfold planL; rw [fill_at (by rw [HL.out]; exact hlt)]
            rw [h6e] at hc6
            clear h6e
            by_cases hneg : leastV z.1 z.2 who (lowM L) (alLess L) k < 0
            · have HX := Lib.hid (fillUp_put (f := planV z.1 z.2 who L) (g := leastV z.1 z.2 who (lowM L) (alLess L)) hlt)
              have HV := Lib.hid (show planV z.1 z.2 who L k = leastV z.1 z.2 who (lowM L) (alSame L) k from if_pos hneg)
              go_wp2
              go_roundw
              case rel => exact ⟨k + 1, by omega, by go_num, by rw [← HX.out, HV.out]; exact h5.set_ (by rw [fillUp_len]) _, h6.off (by show g6 ≠ g5; omega) _, below_set (by show w.heap.size ≤ g5; omega) hw⟩
              case measure => simp [intOf]; omega
            · have HX := Lib.hid (fillUp_same (f := planV z.1 z.2 who L) (g := leastV z.1 z.2 who (lowM L) (alLess L)) (n := j) (k := k) (if_neg hneg))
              go_wp2
              go_roundw
              case rel => exact ⟨k + 1, by omega, by go_num, by rw [HX.out]; exact h5, h6, hw⟩
              case measure => simp [intOf]; omega
          · obtain rfl : k = j := by omega
            rw [fillUp_full] at h5
            go_wp2
            go_ret
            exact ⟨_, rfl, by rw [E.out]; exact h5.more (by omega), hw.mono hB⟩


set_option maxRecDepth 100000 in
set_option maxHeartbeats 1600000 in
theorem specStaysPlan (s0 s1 : Value) (z : ArD) (who : Int) (C : Option Addr) (m d : Nat) (s : List Int) (w : World) (B : Nat) (hB : B ≤ w.heap.size) (ha : RAv w s0 s1 z.1 z.2) (hs : RI w C m d s) :
    Calls Try.prog 40 #[.agg #[s0, s1], .int .i64 who, .slice C m d] w fun e w' => ∃ v, e = .returned v ∧ OI 2 w' B v (staysPlanR z.1 z.2 who s) ∧ Below B w w' := by
  obtain ⟨A0, n0, c0, A1, n1, c1, rfl, rfl⟩ := ha.form
  have hr := ha.ri; have hrr := ha.rii
  have HL := Lib.hid hr.len
  have hba : Below w.heap.size w ((w.alloc (.cells #[.slice A0 n0 c0, .slice A1 n1 c1] 42)).alloc (.cells #[] 2)) := below_alloc (Nat.le_refl _) (below_alloc (Nat.le_refl _) (Below.refl _ _))
  have bx := (Box.new w 42 #[.slice A0 n0 c0, .slice A1 n1 c1]).alloc (.cells #[] 2)
  have hem : OI 2 ((w.alloc (.cells #[.slice A0 n0 c0, .slice A1 n1 c1] 42)).alloc (.cells #[] 2)) (w.heap.size + 1) (.slice (some ⟨w.heap.size + 1, 0, none⟩) 0 0) [] := by
    have := OI.empty (E := 2) (w := w.alloc (.cells #[.slice A0 n0 c0, .slice A1 n1 c1] 42)) (B := w.heap.size + 1) (by simp)
    simpa using this
  have q0 := bx.d0; have q1 := bx.d1
  cases h : okA z.1 z.2 who s with
  | false =>
    have E := Lib.hid (show staysPlanR z.1 z.2 who s = [] from if_neg (by rw [h]; simp))
    go_enter Try.func40, Try.ntmps40
    go_wp2_with fail
    refine (l15Right _ _ _ _ _ _ _ _ _ _ _ _ _ _ _ (Nat.le_refl _) (hr.keep (keeps_below hba)) (hrr.keep (keeps_below hba)) (hs.keep (keeps_below hba))).mono ?_; rintro e w1 ⟨rfl, hb1'⟩
    have hb1 := below_then hb1' hba.size hba
    go_wp2
    go_ret
    exact ⟨_, rfl, by rw [E.out]; exact (hem.below hb1').more (by omega), hb1.mono hB⟩
  | true =>
    obtain ⟨h1, h2, h3⟩ := okA_parts h
    have E := Lib.hid (show staysPlanR z.1 z.2 who s = fill (planV z.1 z.2 who (levelsL z.1 z.2 who s)) n0 from (if_pos h).trans (by rw [HL.out]))
    have HF := Lib.hid (fineAr_of h1)
    have hm0 : 0 < n0 := by have := HF.out.1; rw [HL.out] at this; omega
    have hn0 : n0 ≤ 256 := by have := HF.out.2.1; rw [HL.out] at this; omega
    have hll : (levelsL z.1 z.2 who s).length = n0 := by rw [levelsL_len, HL.out]
    have HM := Lib.hid hrr.len
    have H01 := Lib.hid (show n1 = n0 by rw [← HM.out, HF.out.2.2.1, HL.out])
    clear h1 h2
    go_enter Try.func40, Try.ntmps40
    go_wp2_with fail
    refine (l15Right _ _ _ _ _ _ _ _ _ _ _ _ _ _ _ (Nat.le_refl _) (hr.keep (keeps_below hba)) (hrr.keep (keeps_below hba)) (hs.keep (keeps_below hba))).mono ?_; rintro e w1 ⟨rfl, hb1'⟩
    have hb1 := below_then hb1' hba.size hba
    have bx1 := bx.below hb1' bx.lt
    have hem1 := hem.below hb1'
    have q10 := bx1.d0; have q11 := bx1.d1
    go_wp2_with fail
    refine (l15Levels _ _ _ _ _ _ _ _ _ _ _ _ _ _ _ (Nat.le_refl _) (hr.keep (keeps_below hb1)) (hrr.keep (keeps_below hb1)) (hs.keep (keeps_below hb1)) HF.out h3).mono ?_; rintro e w2 ⟨v, rfl, ho, hb2⟩
    have hw2 := below_then hb2 hb1.size hb1
    have hem2 := hem1.below hb2
    have bx2 := bx1.below hb2 bx1.lt
    have hz2 : w.heap.size + 1 ≤ w2.heap.size := by have := bx2.lt; omega
    have hlo : w.heap.size + 1 < w1.heap.size := by have := (hem1.lt _ rfl).2; simpa using this
    have hb1s := hb2.size
    obtain ⟨gL, cL, rfl⟩ := ho.form2 (by omega)
    rw [hll] at ho ⊢
    have HLL := Lib.hid hll
    generalize hGL : (levelsL z.1 z.2 who s) = L at *
    clear hGL hll q0 q1 q10 q11 hba hem hem1 bx bx1
    go_wp2
    go_loopw [7, 9] (fun x i wr => ∃ k : Nat, k ≤ n0 ∧ i = .int .i64 k ∧ OI 2 wr (w.heap.size + 1) x (fill (planV z.1 z.2 who L) k) ∧ (∀ b, x.ownBlock = some b → b = w.heap.size + 1 ∨ w2.heap.size ≤ b) ∧ Chg (fun b => b = w.heap.size + 1) w2 wr) (fun _ i _ => n0 - (intOf i).toNat)
    case atStart => exact ⟨0, Nat.zero_le _, rfl, hem2, fun b hb => by have hb' : some (w.heap.size + 1) = some b := hb; injection hb' with e; exact .inl e.symm, Chg.refl _ _⟩
    case round =>
      clear hem2
      obtain ⟨wo, rfl⟩ : ∃ wo : World, wo = wr := ⟨_, rfl⟩
      obtain ⟨k, hk, rfl, hx, hxb, hch⟩ := hrel
      have HXB := Lib.hid hxb; have HCH := Lib.hid hch
      have hfl := fill_len (planV z.1 z.2 who L) k
      have hlen : (fill (planV z.1 z.2 who L) k).length ≤ 4194304 := by omega
      have hszc := hch.size
      have hsz : w.heap.size + 1 ≤ wo.heap.size := by omega
      have HFL := Lib.hid hfl
      have HS := Lib.hid (fill_succ (planV z.1 z.2 who L) k)
      obtain ⟨Ax, cx, rfl⟩ := hx.form
      have HX := Lib.hid hx
      have hbr : Below w.heap.size w wo := hw2.trans (hch.below (by omega) (fun b hb => by omega))
      have bxr := bx2.chg hch (by omega)
      have ho' := ho.chg hch (fun b hb hs => by have := (ho.lt b hb).1; omega)
      clear hxb hch hx hfl
      by_cases hlt0 : k < n0
      · have hlt : k < n1 := by have := H01.out; omega
        have q0 := bxr.d0; have q1 := bxr.d1
        obtain ⟨ba, oa, rfl, hcA⟩ := (hr.keep (keeps_below hbr)).at_ hlt0
        obtain ⟨bn, on, An, nn, cn, rfl, hcN, rn⟩ := (hrr.keep (keeps_below hbr)).at_ hlt
        have hcL := ho'.cellAt (i := k) (by rw [HLL.out]; exact hlt0)
        obtain ⟨_, ⟨hd1, hd2⟩, hset⟩ := HF.out.2.2.2 k (by rw [HL.out]; exact hlt0)
        rw [HL.out] at hset
        rw [rn.len] at hd1 hd2
        have HN := Lib.hid rn.len
        have HSET := Lib.hid hset; clear hset
        have bn1 := rn.cap; have bn2 := rn.top
        have hki : (k : Int) < (n0 : Int) := by omega
        have hki1 : (k : Int) < (n1 : Int) := by omega
        have hk0 : (0 : Int) ≤ (k : Int) := by omega
        by_cases hcond : gi z.1 k = who ∧ 0 ≤ gi L k
        · obtain ⟨hwh, hge⟩ := hcond
          have hne : (gi z.1 k == who) = true := by simp [hwh]
          have hgb : gb (lowM L) k = true := by rw [lowM_at (by rw [HLL.out]; exact hlt0)]; exact decide_eq_true hge
          have hdg : decide (0 ≤ gi L k) = true := decide_eq_true hge
          have E1 := Lib.hid (show leastV z.1 z.2 who (lowM L) (alLess L) k = firstU (alLess L k) (gl z.2 k) nn by unfold leastV; rw [if_pos ⟨hgb, hwh⟩, HN.out])
          have E2 := Lib.hid (show leastV z.1 z.2 who (lowM L) (alSame L) k = firstU (alSame L k) (gl z.2 k) nn by unfold leastV; rw [if_pos ⟨hgb, hwh⟩, HN.out])
          clear hwh hgb
          go_wp2
          go_loopw [10, 11, 12] (fun x y i wr => ∃ (j : Nat) (i0 p q : Int), j ≤ nn ∧ i = .int .i64 i0 ∧ i0 + 1 = (j : Int) ∧ x = .int .i64 p ∧ y = .int .i64 q ∧ p = firstR (alLess L k) (gl z.2 k) j (nn - j) ∧ q = firstR (alSame L k) (gl z.2 k) j (nn - j) ∧ ∃ t, wr = wo.drewN t) (fun _ _ i _ => (intOf i + 1).toNat)
          case atStart => exact ⟨nn, (nn : Int) - 1, -1, -1, Nat.le_refl _, by go_num, by omega, rfl, rfl, by rw [Nat.sub_self]; rfl, by rw [Nat.sub_self]; rfl, 0, rfl⟩
          case round =>
            obtain ⟨j, i0, p, q, hj, rfl, hi0, rfl, rfl, hp, hq, tt, rfl⟩ := hrel
            have HP := Lib.hid hp; have HQ := Lib.hid hq
            clear hp hq
            by_cases hj0 : j = 0
            · subst hj0
              obtain rfl : i0 = -1 := by omega
              have hY1 : p = leastV z.1 z.2 who (lowM L) (alLess L) k := by rw [E1.out, HP.out, Nat.sub_zero]; exact firstR_all (fun j => gi_nonneg HSET.out j) nn
              have hY2 : q = leastV z.1 z.2 who (lowM L) (alSame L) k := by rw [E2.out, HQ.out, Nat.sub_zero]; exact firstR_all (fun j => gi_nonneg HSET.out j) nn
              by_cases hneg : p < 0
              · have Y := Lib.hid (show planV z.1 z.2 who L k = q by unfold planV; rw [← hY1, if_pos hneg, hY2])
                have hdn : decide (0 ≤ p) = false := decide_eq_false (by omega)
                clear hY1 hY2
                go_wp2_with (at_builtin; refine wpList_pushI rfl (.tmp 96) (.tmp 98) rfl (wo.drewN tt) (w.heap.size + 1) (.slice Ax (fill (planV z.1 z.2 who L) k).length cx) (fill (planV z.1 z.2 who L) k) rfl (HX.out.drewN tt) q rfl hlen hsz ?_; intro v2 w2' ho2 hb2' hc2 hat2)
                exact ⟨⟨k + 1, by omega, by go_num, by rw [HS.out, Y.out]; exact ho2, fun b hb => (hat2 b hb).elim (HXB.out b) (fun h => .inr (by have := h; (try simp at this); omega)), (HCH.out.drewN tt).push hc2 HXB.out⟩, by simp [intOf]; omega⟩
              · have Y := Lib.hid (show planV z.1 z.2 who L k = p by unfold planV; rw [← hY1, if_neg hneg])
                have hdn : decide (0 ≤ p) = true := decide_eq_true (by omega)
                clear hY1 hY2
                go_wp2_with (at_builtin; refine wpList_pushI rfl (.tmp 96) (.tmp 98) rfl (wo.drewN tt) (w.heap.size + 1) (.slice Ax (fill (planV z.1 z.2 who L) k).length cx) (fill (planV z.1 z.2 who L) k) rfl (HX.out.drewN tt) p rfl hlen hsz ?_; intro v2 w2' ho2 hb2' hc2 hat2)
                exact ⟨⟨k + 1, by omega, by go_num, by rw [HS.out, Y.out]; exact ho2, fun b hb => (hat2 b hb).elim (HXB.out b) (fun h => .inr (by have := h; (try simp at this); omega)), (HCH.out.drewN tt).push hc2 HXB.out⟩, by simp [intOf]; omega⟩
            · obtain ⟨t, rfl⟩ : ∃ t, j = t + 1 := ⟨j - 1, by omega⟩
              obtain rfl : i0 = (t : Int) := by omega
              have htl : t < nn := by omega
              obtain ⟨u, hu, hun⟩ := set_nat HSET.out (show t < (gl z.2 k).length by rw [HN.out]; exact htl)
              obtain ⟨bu, ou, rfl, hcU⟩ := rn.at_ htl
              have hcLu := ho'.cellAt (i := u) (by rw [HLL.out]; exact hun)
              have hgu : gb (lowM L) u = decide (0 ≤ gi L u) := lowM_at (by rw [HLL.out]; exact hun)
              have hui : (u : Int) < (n0 : Int) := by omega
              have hu0 : (0 : Int) ≤ (u : Int) := by omega
              have hti : (t : Int) < (nn : Int) := by omega
              have ht0 : (0 : Int) ≤ (t : Int) := by omega
              have HU := Lib.hid hu
              rw [hu] at hcU
              clear hu hj0 hi0
              by_cases hlu : 0 ≤ gi L u
              · have d1 : decide (0 ≤ gi L u) = true := decide_eq_true hlu
                cases d2 : decide (gi L u < gi L k) <;> cases d3 : (gi L u == gi L k)
                · have H1 := Lib.hid (show alLess L k u = false by unfold alLess; rw [d2]; simp)
                  have H2 := Lib.hid (show alSame L k u = false from d3)
                  clear hgu
                  have X1 := Lib.hid (firstR_miss (al := alLess L k) (p := nn - (t + 1)) HU.out (H1.out))
                  have X2 := Lib.hid (firstR_miss (al := alSame L k) (p := nn - (t + 1)) HU.out (H2.out))
                  clear H1 H2
                  go_wp2
                  go_quiet (fail)
                  go_wp2
                  go_quiet (fail)
                  go_wp2
                  go_roundw
                  case rel => exact ⟨t, (t : Int) - 1, p, q, by omega, by go_num, by omega, rfl, rfl, by rw [show nn - t = nn - (t + 1) + 1 by omega, X1.out, HP.out], by rw [show nn - t = nn - (t + 1) + 1 by omega, X2.out, HQ.out], _, rfl⟩
                  case measure => first | (simp [intOf]; done) | (simp [intOf]; omega)
                · have H1 := Lib.hid (show alLess L k u = false by unfold alLess; rw [d2]; simp)
                  have H2 := Lib.hid (show alSame L k u = true from d3)
                  clear hgu
                  have X1 := Lib.hid (firstR_miss (al := alLess L k) (p := nn - (t + 1)) HU.out (H1.out))
                  have X2 := Lib.hid (firstR_hit (al := alSame L k) (p := nn - (t + 1)) HU.out (H2.out))
                  clear H1 H2
                  go_wp2
                  go_quiet (fail)
                  go_wp2
                  go_quiet (fail)
                  go_wp2
                  go_roundw
                  case rel => exact ⟨t, (t : Int) - 1, p, (u : Int), by omega, by go_num, by omega, rfl, rfl, by rw [show nn - t = nn - (t + 1) + 1 by omega, X1.out, HP.out], by rw [show nn - t = nn - (t + 1) + 1 by omega, X2.out], _, rfl⟩
                  case measure => first | (simp [intOf]; done) | (simp [intOf]; omega)
                · have H1 := Lib.hid (show alLess L k u = true by unfold alLess; rw [d2, hgu, d1]; rfl)
                  have H2 := Lib.hid (show alSame L k u = false from d3)
                  clear hgu
                  have X1 := Lib.hid (firstR_hit (al := alLess L k) (p := nn - (t + 1)) HU.out (H1.out))
                  have X2 := Lib.hid (firstR_miss (al := alSame L k) (p := nn - (t + 1)) HU.out (H2.out))
                  clear H1 H2
                  go_wp2
                  go_quiet (fail)
                  go_wp2
                  go_quiet (fail)
                  go_wp2
                  go_roundw
                  case rel => exact ⟨t, (t : Int) - 1, (u : Int), q, by omega, by go_num, by omega, rfl, rfl, by rw [show nn - t = nn - (t + 1) + 1 by omega, X1.out], by rw [show nn - t = nn - (t + 1) + 1 by omega, X2.out, HQ.out], _, rfl⟩
                  case measure => first | (simp [intOf]; done) | (simp [intOf]; omega)
                · have H1 := Lib.hid (show alLess L k u = true by unfold alLess; rw [d2, hgu, d1]; rfl)
                  have H2 := Lib.hid (show alSame L k u = true from d3)
                  clear hgu
                  have X1 := Lib.hid (firstR_hit (al := alLess L k) (p := nn - (t + 1)) HU.out (H1.out))
                  have X2 := Lib.hid (firstR_hit (al := alSame L k) (p := nn - (t + 1)) HU.out (H2.out))
                  clear H1 H2
                  go_wp2
                  go_quiet (fail)
                  go_wp2
                  go_quiet (fail)
                  go_wp2
                  go_roundw
                  case rel => exact ⟨t, (t : Int) - 1, (u : Int), (u : Int), by omega, by go_num, by omega, rfl, rfl, by rw [show nn - t = nn - (t + 1) + 1 by omega, X1.out], by rw [show nn - t = nn - (t + 1) + 1 by omega, X2.out], _, rfl⟩
                  case measure => first | (simp [intOf]; done) | (simp [intOf]; omega)
              · have d1 : decide (0 ≤ gi L u) = false := decide_eq_false hlu
                have d3 : (gi L u == gi L k) = false := by rw [beq_eq_false_iff_ne]; omega
                have H1 := Lib.hid (show alLess L k u = false by unfold alLess; rw [hgu, d1]; rfl)
                have H2 := Lib.hid (show alSame L k u = false from d3)
                clear hgu hlu
                have X1 := Lib.hid (firstR_miss (al := alLess L k) (p := nn - (t + 1)) HU.out (H1.out))
                have X2 := Lib.hid (firstR_miss (al := alSame L k) (p := nn - (t + 1)) HU.out (H2.out))
                clear H1 H2
                go_wp2
                go_quiet (fail)
                go_wp2
                go_quiet (fail)
                go_wp2
                go_roundw
                case rel => exact ⟨t, (t : Int) - 1, p, q, by omega, by go_num, by omega, rfl, rfl, by rw [show nn - t = nn - (t + 1) + 1 by omega, X1.out, HP.out], by rw [show nn - t = nn - (t + 1) + 1 by omega, X2.out, HQ.out], _, rfl⟩
                case measure => first | (simp [intOf]; done) | (simp [intOf]; omega)
        · have hneg : ∀ al, leastV z.1 z.2 who (lowM L) al k = -1 := fun al => if_neg fun hc => hcond ⟨hc.2, by have := hc.1; rw [lowM_at (by rw [HLL.out]; exact hlt0)] at this; exact of_decide_eq_true this⟩
          have Y := Lib.hid (show planV z.1 z.2 who L k = -1 by unfold planV; rw [hneg, hneg]; rfl)
          clear hneg
          by_cases hwh : gi z.1 k = who
          · have hlk : ¬ 0 ≤ gi L k := fun h => hcond ⟨hwh, h⟩
            have hne : (gi z.1 k == who) = true := by simp [hwh]
            have hdg : decide (0 ≤ gi L k) = false := decide_eq_false hlk
            clear hcond hwh
            go_wp2
            refine wp_loop_rounds 1 ?_
            rw [rounds_succ]
            go_wp2_with (at_builtin; refine wpList_pushI rfl (.tmp 96) (.tmp 98) rfl wo (w.heap.size + 1) (.slice Ax (fill (planV z.1 z.2 who L) k).length cx) (fill (planV z.1 z.2 who L) k) rfl HX.out (-1) rfl hlen hsz ?_; intro v2 w2' ho2 hb2' hc2 hat2)
            exact ⟨⟨k + 1, by omega, by go_num, by rw [HS.out, Y.out]; exact ho2, fun b hb => (hat2 b hb).elim (HXB.out b) (fun h => .inr (by have := h; (try simp at this); omega)), HCH.out.push hc2 HXB.out⟩, by simp [intOf]; omega⟩
          · have hne : (gi z.1 k == who) = false := by simpa using hwh
            clear hcond hwh
            go_wp2
            refine wp_loop_rounds 1 ?_
            rw [rounds_succ]
            go_wp2_with (at_builtin; refine wpList_pushI rfl (.tmp 96) (.tmp 98) rfl wo (w.heap.size + 1) (.slice Ax (fill (planV z.1 z.2 who L) k).length cx) (fill (planV z.1 z.2 who L) k) rfl HX.out (-1) rfl hlen hsz ?_; intro v2 w2' ho2 hb2' hc2 hat2)
            exact ⟨⟨k + 1, by omega, by go_num, by rw [HS.out, Y.out]; exact ho2, fun b hb => (hat2 b hb).elim (HXB.out b) (fun h => .inr (by have := h; (try simp at this); omega)), HCH.out.push hc2 HXB.out⟩, by simp [intOf]; omega⟩
      · obtain rfl : k = n0 := by omega
        go_wp2
        go_ret
        exact ⟨_, rfl, by rw [E.out]; exact HX.out.more (by omega), hbr.mono hB⟩

end Go.Proofs.Ytfjhkjikfjpnpaa
