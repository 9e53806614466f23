/- StaysLevels, StaysWon: spec and impl. StaysPlan: spec and impl. -/
import Derived.Test.YtefjhkcafcchlaaLevels2
import Derived.Test.YtefjhkcafcchlaaArenaL
import Derived.Test.YtefjhkcafcchlaaPlan2
namespace Go.Proofs.Ytefjhkcafcchlaa
open Go.RowKit

noncomputable def staysWonR (o : List Int) (n : List (List Int)) (who : Int) (s : List Int) : List Int := if okA o n who s = true then wonUp (levelsL o n who s) o.length else []
theorem staysWonR_len (z : ArD) (who : Int) (s : List Int) : (staysWonR z.1 z.2 who s).length ≤ 256 := by
  unfold staysWonR
  split
  · rename_i h
    have := (fineAr_of (okA_parts h).1).2.1
    exact Nat.le_trans (pick_len _ _ _) this
  · simp

set_option maxRecDepth 100000 in
set_option maxHeartbeats 400000 in
theorem implStaysWon (s0 s1 : Value) (z : ArD) (who : Int) (C : Option Addr) (m d : Nat) (s : List Int) (w : World) (B : Nat) (hB : B ≤ w.heap.size) (ha : RAv w s0 s1 z.1 z.2) (hs : RI w C m d s) :
    Calls Try.prog 36 #[.agg #[s0, s1], .int .i64 who, .slice C m d] w fun e w' => ∃ v, e = .returned v ∧ OI 2 w' B v (staysWonR z.1 z.2 who s) ∧ Below B w w' := by
  obtain ⟨A0, n0, c0, A1, n1, c1, rfl, rfl⟩ := ha.form
  have hr := ha.ri; have hrr := ha.rii
  have HL := Lib.hid hr.len
  have hba : Below w.heap.size w (w.alloc (.cells #[.slice A0 n0 c0, .slice A1 n1 c1] 30)) := below_alloc (Nat.le_refl _) (Below.refl _ _)
  have bx := Box.new w 30 #[.slice A0 n0 c0, .slice A1 n1 c1]
  have q0 := bx.d0; have q1 := bx.d1
  cases h : okA z.1 z.2 who s with
  | false =>
    have E := Lib.hid (show staysWonR z.1 z.2 who s = [] from if_neg (by rw [h]; simp))
    go_enter Try.func36, Try.ntmps36
    go_wp2_with fail
    refine (canAttract _ _ _ _ _ _ _ _ _ _ _ _ _ _ _ (Nat.le_refl _) (hr.keep (keeps_below hba)) (hrr.keep (keeps_below hba)) (hs.keep (keeps_below hba))).mono ?_; rintro e w1 ⟨rfl, hb1'⟩
    have hb1 := below_then hb1' hba.size hba
    go_wp2
    go_ret
    exact ⟨_, rfl, by rw [E.out]; exact OI.nil _ _ _, hb1.mono hB⟩
  | true =>
    obtain ⟨h1, h2, h3⟩ := okA_parts h
    have E := Lib.hid (show staysWonR z.1 z.2 who s = wonUp (levelsL z.1 z.2 who s) n0 from (if_pos h).trans (by rw [HL.out]))
    have HF := Lib.hid (fineAr_of h1)
    have hn0 : n0 ≤ 256 := by have := HF.out.2.1; rw [HL.out] at this; omega
    have hll : (levelsL z.1 z.2 who s).length = n0 := by rw [levelsL_len, HL.out]
    clear h1 h2
    go_enter Try.func36, Try.ntmps36
    go_wp2_with fail
    refine (canAttract _ _ _ _ _ _ _ _ _ _ _ _ _ _ _ (Nat.le_refl _) (hr.keep (keeps_below hba)) (hrr.keep (keeps_below hba)) (hs.keep (keeps_below hba))).mono ?_; rintro e w1 ⟨rfl, hb1'⟩
    have hb1 := below_then hb1' hba.size hba
    have bx1 := bx.below hb1' bx.lt
    have q10 := bx1.d0; have q11 := bx1.d1
    have bxE := bx1.alloc (.cells #[] 2)
    have qE0 := bxE.d0; have qE1 := bxE.d1
    go_wp2_with fail
    clear qE0 qE1
    have hem := OI.empty (E := 2) (w := w1) (B := w.heap.size + 1) bx1.lt
    have hbE : Below w1.heap.size w1 (w1.alloc (.cells #[] 2)) := below_alloc (Nat.le_refl _) (Below.refl _ _)
    have hwE := below_then hbE hb1.size hb1
    refine (staysLevels _ _ _ _ _ _ _ _ _ _ _ _ _ _ _ (Nat.le_refl _) (hr.keep (keeps_below hwE)) (hrr.keep (keeps_below hwE)) (hs.keep (keeps_below hwE)) HF.out h3).mono ?_; rintro e w2 ⟨v, rfl, ho, hb2⟩
    have hw2 := below_then hb2 hwE.size hwE
    have hem2 := hem.below hb2
    have hz2 : w.heap.size + 1 ≤ w2.heap.size := by have := hb2.size; have := hbE.size; have := bx1.lt; omega
    have hlo : w.heap.size + 1 ≤ w1.heap.size := bx1.lt
    have hlo2 : (w1.alloc (.cells #[] 2)).heap.size = w1.heap.size + 1 := by simp
    have hb1s := hb2.size
    rw [hlo2] at ho
    obtain ⟨Av, cv, rfl⟩ := ho.form
    rw [hll] at ho ⊢
    have hrd := ho.reads
    have HLL := Lib.hid hll
    clear hll q0 q1 q10 q11 hba
    have bc := hrd.cap; have bt := hrd.top
    go_wp2
    go_loopw [7, 21] (fun x i wr => ∃ k : Nat, k ≤ n0 ∧ i = .int .i64 k ∧ OI 2 wr (w.heap.size + 1) x (wonUp (levelsL z.1 z.2 who s) k) ∧ (∀ b, x.ownBlock = some b → b = w1.heap.size ∨ w2.heap.size ≤ b) ∧ Chg (fun b => b = w1.heap.size) w2 wr) (fun _ i _ => n0 - (intOf i).toNat)
    case atStart => exact ⟨0, Nat.zero_le _, rfl, hem2, fun b hb => by have hb' : some (w1.heap.size) = some b := hb; injection hb' with e; exact .inl e.symm, Chg.refl _ _⟩
    case round =>
      obtain ⟨k, hk, rfl, hx, hxb, hch⟩ := hrel
      have hup : (wonUp (levelsL z.1 z.2 who s) k).length ≤ k := pick_len _ _ _
      have hsz := hch.size
      by_cases hlt : k < n0
      · have ho' := ho.chg hch (fun b hb hs => by have := (ho.lt b hb).1; omega)
        obtain ⟨bb, off, rfl, hc⟩ := ho'.reads.at_ hlt
        by_cases hp : 0 ≤ gi (levelsL z.1 z.2 who s) k
        · have HX := Lib.hid (show wonUp (levelsL z.1 z.2 who s) (k + 1) = wonUp (levelsL z.1 z.2 who s) k ++ [(k : Int)] from pick_yes (decide_eq_true hp))
          have hd : decide (0 ≤ gi (levelsL z.1 z.2 who s) k) = true := decide_eq_true hp
          go_wp2_with (refine wpList_pushI rfl (.tmp 28) (.tmp 30) rfl _ _ _ (wonUp (levelsL z.1 z.2 who s) k) rfl hx _ rfl (by omega) (by omega) ?_; intro v2 w2' ho2 hb2' hc2 hat2)
          go_roundw
          case rel => exact ⟨k + 1, by omega, by go_num, by rw [HX.out]; exact ho2, fun b hb => (hat2 b hb).elim (hxb b) (fun h => .inr (by omega)), hch.push hc2 hxb⟩
          case measure => simp [intOf]; omega
        · have HX := Lib.hid (show wonUp (levelsL z.1 z.2 who s) (k + 1) = wonUp (levelsL z.1 z.2 who s) k from pick_no (decide_eq_false hp))
          have hd : decide (0 ≤ gi (levelsL z.1 z.2 who s) k) = false := decide_eq_false hp
          go_wp2
          go_roundw
          case rel => exact ⟨k + 1, by omega, by go_num, by rw [HX.out]; exact hx, hxb, hch⟩
          case measure => simp [intOf]; omega
      · obtain rfl : k = n0 := by omega
        go_wp2
        go_ret
        exact ⟨_, rfl, by rw [E.out]; exact hx.more (by omega), (hw2.mono hB).trans (hch.below (by omega) (fun b hb => by omega))⟩

end Go.Proofs.Ytefjhkcafcchlaa
namespace Go.Proofs.Ytefjhkcafcchlaa
open Go.RowKit

/-- the first that is allowed, of p from j on -/
def firstR (al : Nat → Bool) (ns : List Int) (j : Nat) : Nat → Int
  | 0 => -1
  | p + 1 => if al (gi ns j).toNat = true then gi ns j else firstR al ns (j + 1) p
theorem firstR_eq {al : Nat → Bool} {ns : List Int} (h : ∀ j, 0 ≤ gi ns j) : ∀ (p j : Nat), firstU al ns (j + p) = if 0 ≤ firstU al ns j then firstU al ns j else firstR al ns j p
  | 0, j => by
    split
    · rfl
    · rename_i hn
      have : firstU al ns j = -1 := by
        cases j with
        | zero => rfl
        | succ j =>
          unfold firstU at hn ⊢
          split
          · rename_i h1
            rw [if_pos h1] at hn
            split
            · rename_i h2
              rw [if_pos h2] at hn
              exact absurd (h j) hn
            · rfl
          · rename_i h1
            rw [if_neg h1] at hn
            omega
      exact this
  | p + 1, j => by
    rw [show j + (p + 1) = (j + 1) + p by omega, firstR_eq h p (j + 1)]
    by_cases h1 : 0 ≤ firstU al ns j
    · rw [if_pos h1]
      have e : firstU al ns (j + 1) = firstU al ns j := by rw [firstU, if_neg (by omega)]
      rw [e, if_pos h1]
    · rw [if_neg h1]
      by_cases h2 : al (gi ns j).toNat = true
      · have e : firstU al ns (j + 1) = gi ns j := by rw [firstU, if_pos (by omega), if_pos h2]
        rw [e, if_pos (h j), firstR, if_pos h2]
      · have e : firstU al ns (j + 1) = -1 := by rw [firstU, if_pos (by omega), if_neg h2]
        rw [e, if_neg (by omega), firstR, if_neg h2]
theorem firstR_all {al : Nat → Bool} {ns : List Int} (h : ∀ j, 0 ≤ gi ns j) (n : Nat) : firstR al ns 0 n = firstU al ns n := by
  have := firstR_eq (al := al) h n 0
  rw [Nat.zero_add] at this
  rw [this, if_neg (by simp [firstU])]
theorem firstR_hit {al : Nat → Bool} {ns : List Int} {j p m : Nat} (hm : gi ns j = (m : Int)) (h : al m = true) : firstR al ns j (p + 1) = (m : Int) := by rw [firstR, hm, Int.toNat_natCast, if_pos h]
theorem firstR_miss {al : Nat → Bool} {ns : List Int} {j p m : Nat} (hm : gi ns j = (m : Int)) (h : al m = false) : firstR al ns j (p + 1) = firstR al ns (j + 1) p := by rw [firstR, hm, Int.toNat_natCast, if_neg (by rw [h]; simp)]
theorem gi_nonneg {s : List Int} {n : Int} (h : setB s n = true) (j : Nat) : 0 ≤ gi s j := by
  rcases Nat.lt_or_ge j s.length with hj | hj
  · exact (setB_true.1 h j hj).1
  · simp [gi, List.getElem?_eq_none hj]

def alLess (L : List Int) (v u : Nat) : Bool := gb (lowM L) u && decide (gi L u < gi L v)
def alSame (L : List Int) (v u : Nat) : Bool := gi L u == gi L v
def planV (o : List Int) (n : List (List Int)) (who : Int) (L : List Int) (v : Nat) : Int := if leastV o n who (lowM L) (alLess L) v < 0 then leastV o n who (lowM L) (alSame L) v else leastV o n who (lowM L) (alLess L) v
noncomputable def staysPlanR (o : List Int) (n : List (List Int)) (who : Int) (s : List Int) : List Int := if okA o n who s = true then fill (planV o n who (levelsL o n who s)) o.length else []
theorem staysPlanR_len (z : ArD) (who : Int) (s : List Int) : (staysPlanR z.1 z.2 who s).length ≤ 256 := by
  unfold staysPlanR
  split
  · rename_i h
    have := (fineAr_of (okA_parts h).1).2.1
    rw [fill_len]
    exact this
  · simp

set_option maxRecDepth 100000 in
theorem spFn1 (A D : Option Addr) (n0 c d : Nat) (L : List Int) (v u b1 b2 : Nat) (w : World) (h1 : w.cell? ⟨b1, 0, none⟩ = some (.slice D n0 d)) (h2 : w.cell? ⟨b2, 0, none⟩ = some (.slice A n0 c)) (hm : RB w D n0 d (lowM L)) (hL : RI w A n0 c L) (hv : v < n0) (hu : u < n0) :
    Calls Try.prog 101 #[.int .i64 (v : Int), .int .i64 (u : Int), .pointer (some ⟨b1, 0, none⟩), .pointer (some ⟨b2, 0, none⟩)] w fun e w' => e = .returned (.bool (alLess L v u)) ∧ Below w.heap.size w w' := by
  obtain ⟨bD, oD, rfl, hcD⟩ := hm.at_ hu
  obtain ⟨bA, oA, rfl, hcu⟩ := hL.at_ hu
  obtain ⟨bA2, oA2, hA2, hcv⟩ := hL.at_ hv
  injection hA2 with hA2
  injection hA2 with hA3 hA4
  subst hA3; subst hA4
  have hvi : (v : Int) < (n0 : Int) := by omega
  have hui : (u : Int) < (n0 : Int) := by omega
  have hv0 : (0 : Int) ≤ (v : Int) := by omega
  have hu0 : (0 : Int) ≤ (u : Int) := by omega
  cases hg : gb (lowM L) u with
  | false =>
    have E := Lib.hid (show alLess L v u = false by unfold alLess; rw [hg]; rfl)
    rw [hg] at hcD
    clear hg
    go_enter Try.func101, Try.ntmps101
    go_wp2
    go_quiet (fail)
    go_wp2
    go_ret
    exact ⟨ret_b E.out.symm, by repeat (first | with_reducible assumption | with_reducible exact Below.refl _ _ | with_reducible refine below_drewN ?_ _ | with_reducible refine Below.drew ?_ | with_reducible refine below_alloc (Nat.le_refl _) ?_)⟩
  | true =>
    have E := Lib.hid (show alLess L v u = decide (gi L u < gi L v) by unfold alLess; rw [hg]; rfl)
    rw [hg] at hcD
    clear hg
    go_enter Try.func101, Try.ntmps101
    go_wp2
    go_quiet (fail)
    go_wp2
    go_ret
    exact ⟨ret_b E.out.symm, by repeat (first | with_reducible assumption | with_reducible exact Below.refl _ _ | with_reducible refine below_drewN ?_ _ | with_reducible refine Below.drew ?_ | with_reducible refine below_alloc (Nat.le_refl _) ?_)⟩
theorem spFn1_enter (args : Array Value) (w : World) : (callFunc 101 args).run Try.prog w = .ok (.enter 101 args) w := by kernel_rfl
set_option maxRecDepth 100000 in
theorem spFn2 (A : Option Addr) (n0 c : Nat) (L : List Int) (v u b2 : Nat) (w : World) (h2 : w.cell? ⟨b2, 0, none⟩ = some (.slice A n0 c)) (hL : RI w A n0 c L) (hv : v < n0) (hu : u < n0) :
    Calls Try.prog 102 #[.int .i64 (v : Int), .int .i64 (u : Int), .pointer (some ⟨b2, 0, none⟩)] w fun e w' => e = .returned (.bool (alSame L v u)) ∧ Below w.heap.size w w' := by
  obtain ⟨bA, oA, rfl, hcu⟩ := hL.at_ hu
  obtain ⟨bA2, oA2, hA2, hcv⟩ := hL.at_ hv
  injection hA2 with hA2
  injection hA2 with hA3 hA4
  subst hA3; subst hA4
  have hvi : (v : Int) < (n0 : Int) := by omega
  have hui : (u : Int) < (n0 : Int) := by omega
  have hv0 : (0 : Int) ≤ (v : Int) := by omega
  have hu0 : (0 : Int) ≤ (u : Int) := by omega
  go_enter Try.func102, Try.ntmps102
  go_wp2
  go_quiet (fail)
  go_wp2
  go_ret
  exact ⟨rfl, by repeat (first | with_reducible assumption | with_reducible exact Below.refl _ _ | with_reducible refine below_drewN ?_ _ | with_reducible refine Below.drew ?_ | with_reducible refine below_alloc (Nat.le_refl _) ?_)⟩
theorem spFn2_enter (args : Array Value) (w : World) : (callFunc 102 args).run Try.prog w = .ok (.enter 102 args) w := by kernel_rfl


set_option maxRecDepth 100000 in
set_option maxHeartbeats 1600000 in
theorem implStaysPlan (s0 s1 : Value) (z : ArD) (who : Int) (C : Option Addr) (m d : Nat) (s : List Int) (w : World) (B : Nat) (hB : B ≤ w.heap.size) (ha : RAv w s0 s1 z.1 z.2) (hs : RI w C m d s) :
    Calls Try.prog 34 #[.agg #[s0, s1], .int .i64 who, .slice C m d] w fun e w' => ∃ v, e = .returned v ∧ OI 2 w' B v (staysPlanR z.1 z.2 who s) ∧ Below B w w' := by
  have hmf : ∀ (fn : Fn) (first cap : Array Value) (w : World), (Instr.makeFunc fn first cap).run Try.prog w = .ok (.func fn first cap) w := fun _ _ _ _ => rfl
  obtain ⟨A0, n0, c0, A1, n1, c1, rfl, rfl⟩ := ha.form
  have hr := ha.ri; have hrr := ha.rii
  have HL := Lib.hid hr.len
  have hba : Below w.heap.size w (w.alloc (.cells #[.slice A0 n0 c0, .slice A1 n1 c1] 30)) := below_alloc (Nat.le_refl _) (Below.refl _ _)
  have bx := Box.new w 30 #[.slice A0 n0 c0, .slice A1 n1 c1]
  have q0 := bx.d0; have q1 := bx.d1
  cases h : okA z.1 z.2 who s with
  | false =>
    have E := Lib.hid (show staysPlanR z.1 z.2 who s = [] from if_neg (by rw [h]; simp))
    go_enter Try.func34, Try.ntmps34
    go_wp2_with fail
    refine (canAttract _ _ _ _ _ _ _ _ _ _ _ _ _ _ _ (Nat.le_refl _) (hr.keep (keeps_below hba)) (hrr.keep (keeps_below hba)) (hs.keep (keeps_below hba))).mono ?_; rintro e w1 ⟨rfl, hb1'⟩
    have hb1 := below_then hb1' hba.size hba
    go_wp2
    go_ret
    exact ⟨_, rfl, by rw [E.out]; exact OI.nil _ _ _, hb1.mono hB⟩
  | true =>
    obtain ⟨h1, h2, h3⟩ := okA_parts h
    have E := Lib.hid (show staysPlanR z.1 z.2 who s = fill (planV z.1 z.2 who (levelsL z.1 z.2 who s)) n0 from (if_pos h).trans (by rw [HL.out]))
    have HF := Lib.hid (fineAr_of h1)
    have hm0 : 0 < n0 := by have := HF.out.1; rw [HL.out] at this; omega
    have hn0 : n0 ≤ 256 := by have := HF.out.2.1; rw [HL.out] at this; omega
    have hll : (levelsL z.1 z.2 who s).length = n0 := by rw [levelsL_len, HL.out]
    clear h1 h2
    go_enter Try.func34, Try.ntmps34
    go_wp2_with fail
    refine (canAttract _ _ _ _ _ _ _ _ _ _ _ _ _ _ _ (Nat.le_refl _) (hr.keep (keeps_below hba)) (hrr.keep (keeps_below hba)) (hs.keep (keeps_below hba))).mono ?_; rintro e w1 ⟨rfl, hb1'⟩
    have hw := below_then hb1' hba.size hba
    replace bx := bx.below hb1' bx.lt
    clear q0 q1
    have q0 := bx.d0; have q1 := bx.d1
    go_wp2_with fail
    refine (staysLevels _ _ _ _ _ _ _ _ _ _ _ _ _ _ _ (Nat.le_refl _) (hr.keep (keeps_below hw)) (hrr.keep (keeps_below hw)) (hs.keep (keeps_below hw)) HF.out h3).mono ?_; rintro e w2 ⟨v, rfl, ho, hb2⟩
    obtain ⟨gL, cL, rfl⟩ := ho.form2 (by omega)
    rw [hll] at ho ⊢
    have hgL : w1.heap.size ≤ gL ∧ gL < w2.heap.size := ho.lt gL rfl
    have hz1 := bx.lt
    replace bx := bx.below hb2 bx.lt
    replace hw := below_then hb2 hw.size hw
    have HLL := Lib.hid hll
    generalize hGL : (levelsL z.1 z.2 who s) = L at *
    have HGL := Lib.hid hGL
    clear hll hGL q0 q1 hba hb1' hb2
    have hbA : Below w2.heap.size w2 (w2.alloc (.cells #[.slice (some ⟨gL, 0, none⟩) n0 cL] 27)) := below_alloc (Nat.le_refl _) (Below.refl _ _)
    have bl := Box.new w2 27 #[.slice (some ⟨gL, 0, none⟩) n0 cL]
    have hzA : (w2.alloc (.cells #[.slice (some ⟨gL, 0, none⟩) n0 cL] 27)).heap.size = w2.heap.size + 1 := by simp
    have q2 : (w2.alloc (.cells #[.slice (some ⟨gL, 0, none⟩) n0 cL] 27)).cell? ⟨w2.heap.size, 0, none⟩ = some (.slice (some ⟨gL, 0, none⟩) n0 cL) := bl.cell 0
    go_wp2_with (refine wpList_makeB rfl (.tmp 25) rfl _ n0 rfl (by omega) ?_; intro w3 hin hb3; rw [hzA] at hin; (try rw [hzA]); have q3 : ∀ o, (w3.alloc o).cell? ⟨w2.heap.size, 0, none⟩ = some (.slice (some ⟨gL, 0, none⟩) n0 cL) := fun o => keepA ((bl.below hb3 bl.lt).cell 0))
    clear q3
    have hbB := below_then hb3 hbA.size hbA
    replace ho := ho.below hbB
    replace bl := bl.below hb3 bl.lt
    replace bx := bx.below hbB bx.lt
    replace hw := below_then hbB hw.size hw
    have hz3 : w2.heap.size + 1 < w3.heap.size := (hin.lt _ rfl).2
    clear hbA hzA q2 hb3 hbB
    have hbC : Below w3.heap.size w3 (w3.alloc (.cells #[.slice (some ⟨w2.heap.size + 1, 0, none⟩) n0 n0] 98)) := below_alloc (Nat.le_refl _) (Below.refl _ _)
    have bi := Box.new w3 98 #[.slice (some ⟨w2.heap.size + 1, 0, none⟩) n0 n0]
    replace ho := (ho.below hbC).more (lo' := w.heap.size + 1) (by omega)
    replace bl := bl.below hbC bl.lt
    replace bx := bx.below hbC bx.lt
    replace hin := (hin.below hbC).more (lo' := w.heap.size + 1) (by omega)
    replace hw := below_then hbC hw.size hw
    generalize (w3.alloc (.cells #[.slice (some ⟨w2.heap.size + 1, 0, none⟩) n0 n0] 98)) = W at *
    clear hbC
    obtain ⟨hgLa, hgLb⟩ := hgL
    generalize w3.heap.size = bI at *
    generalize w2.heap.size = bL at *
    go_loopw [29] (fun i wr => ∃ j : Nat, j ≤ n0 ∧ i = .int .i64 j ∧ OB 4 wr (w.heap.size + 1) (.slice (some ⟨bL + 1, 0, none⟩) n0 n0) (fillB (fun q => decide (0 ≤ gi L q)) n0 j) ∧ OI 2 wr (w.heap.size + 1) (.slice (some ⟨gL, 0, none⟩) n0 cL) L ∧ Box wr bL 27 #[.slice (some ⟨gL, 0, none⟩) n0 cL] ∧ Box wr bI 98 #[.slice (some ⟨bL + 1, 0, none⟩) n0 n0] ∧ Box wr w.heap.size 30 #[.slice A0 n0 c0, .slice A1 n1 c1] ∧ Below w.heap.size w wr) (fun i _ => n0 - (intOf i).toNat)
    case atStart => exact ⟨0, Nat.zero_le _, rfl, by rw [fillB_zero]; exact hin, ho, bl, bi, bx, hw⟩
    case round =>
      clear hin ho bl bi bx hw
      obtain ⟨j, hj, rfl, hin, ho, bl, bi, bx, hw⟩ := hrel
      by_cases hlt : j < n0
      · have hco := ho.cellAt (i := j) (by rw [HLL.out]; exact hlt)
        have hcx := hin.atx (i := j) (by rw [fillB_len]; exact hlt)
        have hfx := hin.hot (i := j) (by rw [fillB_len])
        have q2 : wr.cell? ⟨bI, 0, none⟩ = some (.slice (some ⟨bL + 1, 0, none⟩) n0 n0) := bi.cell 0
        have HX := Lib.hid (fillB_put (f := fun q => decide (0 ≤ gi L q)) hlt)
        go_wp2
        go_roundw
        case rel =>
          exact ⟨j + 1, by omega, by go_num, by rw [← HX.out]; exact hin.set_ (by rw [fillB_len]) _, ho.off (by show gL ≠ bL + 1; omega) _, bl.far (by show bL ≠ bL + 1; omega) _, bi.far (by show bI ≠ bL + 1; omega) _, bx.far (by show w.heap.size ≠ bL + 1; omega) _, below_set (by show w.heap.size ≤ bL + 1; omega) hw⟩
        case measure => simp [intOf]; omega
      · obtain rfl : j = n0 := by omega
        rw [lowM_fill HLL.out] at hin
        have q0 := bx.d0; have q1 := bx.d1
        have q2 : wr.cell? ⟨bI, 0, none⟩ = some (.slice (some ⟨bL + 1, 0, none⟩) j j) := bi.cell 0
        go_wp2_with fail
        clear q0 q1 q2
        have HGS := firstMoves (alLess L) 101 #[.pointer (some ⟨bI, 0, none⟩), .pointer (some ⟨bL, 0, none⟩)] A0 A1 (some ⟨bL + 1, 0, none⟩) j c0 n1 c1 j j z.1 z.2 who (lowM L) wr _ (Nat.le_refl _) (hr.keep (keeps_below hw)) (hrr.keep (keeps_below hw)) hin.reads HF.out rfl spFn1_enter (fun w' v u hbw hv hu => spFn1 _ _ j cL j L v u bI bL w' ((bi.below hbw bi.lt).cell 0) ((bl.below hbw bl.lt).cell 0) (hin.reads.keep (keeps_below hbw)) (ho.reads.keep (keeps_below hbw)) hv hu)
        refine HGS.mono ?_
        clear HGS
        rintro e w5 ⟨v5, rfl, h5, hb5⟩
        have hl5 : (planL z.1 z.2 who (lowM L) (alLess L)).length = j := by unfold planL; rw [fill_len, HL.out]
        obtain ⟨g5, c5, rfl⟩ := h5.form2 (by omega)
        rw [hl5] at h5 ⊢
        have hg5 : wr.heap.size ≤ g5 ∧ g5 < w5.heap.size := h5.lt g5 rfl
        have hz5 := bi.lt
        replace hin := hin.below hb5
        replace ho := ho.below hb5
        replace bl := bl.below hb5 bl.lt
        replace bi := bi.below hb5 bi.lt
        replace bx := bx.below hb5 bx.lt
        replace hw := below_then hb5 hw.size hw
        clear hb5
        have q0 := bx.d0; have q1 := bx.d1
        have q2 : w5.cell? ⟨bI, 0, none⟩ = some (.slice (some ⟨bL + 1, 0, none⟩) j j) := bi.cell 0
        go_wp2_with fail
        clear q0 q1 q2
        have HGS := firstMoves (alSame L) 102 #[.pointer (some ⟨bL, 0, none⟩)] A0 A1 (some ⟨bL + 1, 0, none⟩) j c0 n1 c1 j j z.1 z.2 who (lowM L) w5 _ (Nat.le_refl _) (hr.keep (keeps_below hw)) (hrr.keep (keeps_below hw)) hin.reads HF.out rfl spFn2_enter (fun w' v u hbw hv hu => spFn2 _ j cL L v u bL w' ((bl.below hbw bl.lt).cell 0) (ho.reads.keep (keeps_below hbw)) hv hu)
        refine HGS.mono ?_
        clear HGS
        rintro e w6 ⟨v6, rfl, h6, hb6⟩
        have hl6 : (planL z.1 z.2 who (lowM L) (alSame L)).length = j := by unfold planL; rw [fill_len, HL.out]
        obtain ⟨g6, c6, rfl⟩ := h6.form2 (by omega)
        rw [hl6] at h6 ⊢
        have hg6 : w5.heap.size ≤ g6 := (h6.lt g6 rfl).1
        replace h5 := h5.below hb6
        replace hw := below_then hb6 hw.size hw
        obtain ⟨hg5a, hg5b⟩ := hg5
        have hw1 : w.heap.size ≤ wr.heap.size := by omega
        have H5 := Lib.hid (show planL z.1 z.2 who (lowM L) (alLess L) = fillUp (planV z.1 z.2 who L) j (leastV z.1 z.2 who (lowM L) (alLess L)) 0 by unfold planL; rw [fillUp_zero, HL.out])
        rw [H5.out] at h5
        replace h5 := h5.more (lo' := w.heap.size) (by omega)
        replace h6 := h6.more (lo' := w.heap.size) (by omega)
        clear hin ho bl bi bx hb6
        go_wp2
        go_loopw [52] (fun i wq => ∃ k : Nat, k ≤ j ∧ i = .int .i64 k ∧ OI 2 wq w.heap.size (.slice (some ⟨g5, 0, none⟩) j c5) (fillUp (planV z.1 z.2 who L) j (leastV z.1 z.2 who (lowM L) (alLess L)) k) ∧ OI 2 wq w.heap.size (.slice (some ⟨g6, 0, none⟩) j c6) (planL z.1 z.2 who (lowM L) (alSame L)) ∧ Below w.heap.size w wq) (fun i _ => j - (intOf i).toNat)
        case atStart => exact ⟨0, Nat.zero_le _, rfl, h5, h6, hw⟩
        case round =>
          clear h5 h6 hw
          obtain ⟨k, hk, rfl, h5, h6, hw⟩ := hrel
          by_cases hlt : k < j
          · have hc5 := h5.cellAt (i := k) (by rw [fillUp_len]; exact hlt)
            have hf5 := h5.hot (i := k) (by rw [fillUp_len])
            have hc6 := h6.cellAt (i := k) (by rw [hl6]; exact hlt)
            rw [fillUp_at hlt, if_neg (Nat.lt_irrefl _)] at hc5
            have h6e : gi (planL z.1 z.2 who (lowM L) (alSame L)) k = leastV z.1 z.2 who (lowM L) (alSame L) k := by unfold planL; rw [fill_at (by rw [HL.out]; exact hlt)]
            rw [h6e] at hc6
            clear h6e
            by_cases hneg : leastV z.1 z.2 who (lowM L) (alLess L) k < 0
            · have HX := Lib.hid (fillUp_put (f := planV z.1 z.2 who L) (g := leastV z.1 z.2 who (lowM L) (alLess L)) hlt)
              have HV := Lib.hid (show planV z.1 z.2 who L k = leastV z.1 z.2 who (lowM L) (alSame L) k from if_pos hneg)
              go_wp2
              go_roundw
              case rel => exact ⟨k + 1, by omega, by go_num, by rw [← HX.out, HV.out]; exact h5.set_ (by rw [fillUp_len]) _, h6.off (by show g6 ≠ g5; omega) _, below_set (by show w.heap.size ≤ g5; omega) hw⟩
              case measure => simp [intOf]; omega
            · have HX := Lib.hid (fillUp_same (f := planV z.1 z.2 who L) (g := leastV z.1 z.2 who (lowM L) (alLess L)) (n := j) (k := k) (if_neg hneg))
              go_wp2
              go_roundw
              case rel => exact ⟨k + 1, by omega, by go_num, by rw [HX.out]; exact h5, h6, hw⟩
              case measure => simp [intOf]; omega
          · obtain rfl : k = j := by omega
            rw [fillUp_full] at h5
            go_wp2
            go_ret
            exact ⟨_, rfl, by rw [E.out]; exact h5.more (by omega), hw.mono hB⟩


end Go.Proofs.Ytefjhkcafcchlaa
