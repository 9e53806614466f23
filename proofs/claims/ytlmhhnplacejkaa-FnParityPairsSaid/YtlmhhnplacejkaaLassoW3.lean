/- LassoWell, spec and impl. -/
import Derived.Test.YtlmhhnplacejkaaLassoW2
namespace Go.Proofs.Ytlmhhnplacejkaa
open Go.RowKit

noncomputable def lasW (a : ArD) (ps : List PairD) (z : TwoD) : Bool := lasB a.1 a.2 z && (pairsB ps a.1.length && (brokenL ps z.2).length == 0)
section
variable {a : ArD} {ps : List PairD} {z : TwoD}
theorem lasW_1 (h : lasB a.1 a.2 z = false) : lasW a ps z = false := by unfold lasW; rw [h]; rfl
theorem lasW_2 (h : pairsB ps a.1.length = false) : lasW a ps z = false := by unfold lasW; rw [h]; simp
theorem lasW_3 (h : (brokenL ps z.2).length ≠ 0) : lasW a ps z = false := by unfold lasW; rw [show ((brokenL ps z.2).length == 0) = false by simpa using h]; simp
theorem lasW_4 (h : lasB a.1 a.2 z = true) (h2 : pairsB ps a.1.length = true) (h3 : (brokenL ps z.2).length = 0) : lasW a ps z = true := by unfold lasW; rw [h, h2, h3]; rfl
theorem lasB_parts (h : lasB a.1 a.2 z = true) : arB a.1 a.2 = true ∧ z.2.length ≤ 256 := by
  unfold lasB lasE at h
  rw [Bool.and_eq_true, Bool.and_eq_true] at h
  exact ⟨h.1, (of_decide_eq_true h.2.1).2.2⟩
theorem lasE_1 (h : lasE a.1 a.2 z = true) : 1 ≤ z.2.length := by
  unfold lasE at h
  rw [Bool.and_eq_true] at h
  exact (of_decide_eq_true h.1).2.1
theorem lasB_e (h : arB a.1 a.2 = true) (h2 : lasE a.1 a.2 z = true) : lasB a.1 a.2 z = true := by rw [lasB_eq h, h2]
end

set_option maxRecDepth 100000 in
theorem sizeFn (A0 A1 : Option Addr) (n0 c0 n1 c1 : Nat) (w : World) (B : Nat) (hB : B ≤ w.heap.size) :
    Calls Try.prog 81 #[.agg #[.slice A0 n0 c0, .slice A1 n1 c1]] w fun e w' => e = .returned (.int .i64 (n0 : Int)) ∧ Below B w w' := by
  have hba : Below w.heap.size w (w.alloc (.cells #[.slice A0 n0 c0, .slice A1 n1 c1] 30)) := below_alloc (Nat.le_refl _) (Below.refl _ _)
  have q0 := (Box.new w 30 #[.slice A0 n0 c0, .slice A1 n1 c1]).d0
  go_enter Try.func81, Try.ntmps81
  go_wp2
  go_ret
  exact ⟨rfl, hba.mono hB⟩

set_option maxRecDepth 100000 in
set_option maxHeartbeats 1600000 in
theorem implLassoWell (s0 s1 : Value) (a : ArD) (A : Option Addr) (n c : Nat) (ps : List PairD) (t0 t1 : Value) (z : TwoD) (w : World) (B : Nat) (hB : B ≤ w.heap.size) (ha : RAv w s0 s1 a.1 a.2) (hp : RPS w A n c ps) (hz : RTv w t0 t1 z) :
    Calls Try.prog 20 #[.agg #[s0, s1], .slice A n c, .agg #[t0, t1]] w fun e w' => e = .returned (.bool (lasW a ps z)) ∧ Below B w w' := by
  obtain ⟨A0, n0, c0, A1, n1, c1, rfl, rfl⟩ := ha.form
  obtain ⟨S, m, d, L, k, f, rfl, rfl⟩ := hz.form
  have hr := ha.ri; have hrr := ha.rii; have hs := hz.r1; have hl := hz.r2
  have b1 := hp.cap; have b2 := hp.top
  have HO := Lib.hid hr.len; have HP := Lib.hid hp.len; have HK := Lib.hid hl.len
  have hba : Below w.heap.size w ((w.alloc (.cells #[.slice A0 n0 c0, .slice A1 n1 c1] 30)).alloc (.cells #[.slice S m d, .slice L k f] 40)) := below_alloc (Nat.le_refl _) (below_alloc (Nat.le_refl _) (Below.refl _ _))
  have bx := (Box.new w 30 #[.slice A0 n0 c0, .slice A1 n1 c1]).alloc (.cells #[.slice S m d, .slice L k f] 40)
  have bl : Box ((w.alloc (.cells #[.slice A0 n0 c0, .slice A1 n1 c1] 30)).alloc (.cells #[.slice S m d, .slice L k f] 40)) (w.heap.size + 1) 40 #[.slice S m d, .slice L k f] := Box.new' (by simp)
  have q0 := bx.d0; have q1 := bx.d1; have p0 := bl.d0; have p1 := bl.d1
  cases h0 : arB a.1 a.2 with
  | false =>
    have E := Lib.hid (lasW_1 (ps := ps) (lasB_no (z := z) h0))
    have H0 := Lib.hid h0
    clear h0
    go_enter Try.func20, Try.ntmps20
    go_wp2_with fail
    refine (implArenaOk _ _ _ _ _ _ a.1 a.2 _ _ (Nat.le_refl _) (hr.keep (keeps_below hba)) (hrr.keep (keeps_below hba))).mono ?_; rintro e w1 ⟨rfl, hb1⟩
    rw [H0.out]
    have hw1 := below_then hb1 hba.size hba
    replace bx := bx.below hb1 bx.lt; replace bl := bl.below hb1 bl.lt
    clear q0 q1 p0 p1
    have q0 := bx.d0; have q1 := bx.d1; have p0 := bl.d0; have p1 := bl.d1
    go_wp2
    go_ret
    exact ⟨ret_b E.out.symm, hw1.mono hB⟩
  | true =>
    have H0 := Lib.hid h0
    have hf := fineAr_of h0
    have hn0 : n0 ≤ 256 := by have := hf.2.1; rw [HO.out] at this; exact this
    have HF := Lib.hid hf
    clear h0 hf
    cases h1 : lasE a.1 a.2 z with
    | false =>
      have E := Lib.hid (lasW_1 (ps := ps) (show lasB a.1 a.2 z = false by rw [lasB_eq H0.out, h1]))
      have H1 := Lib.hid h1
      clear h1
      go_enter Try.func20, Try.ntmps20
      go_wp2_with fail
      refine (implArenaOk _ _ _ _ _ _ a.1 a.2 _ _ (Nat.le_refl _) (hr.keep (keeps_below hba)) (hrr.keep (keeps_below hba))).mono ?_; rintro e w1 ⟨rfl, hb1⟩
      rw [H0.out]
      have hw1 := below_then hb1 hba.size hba
      replace bx := bx.below hb1 bx.lt; replace bl := bl.below hb1 bl.lt
      clear q0 q1 p0 p1
      have q0 := bx.d0; have q1 := bx.d1; have p0 := bl.d0; have p1 := bl.d1
      go_wp2_with fail
      refine (isLasso _ _ _ _ _ _ _ _ _ _ _ _ a.1 a.2 z _ _ (Nat.le_refl _) (hr.keep (keeps_below hw1)) (hrr.keep (keeps_below hw1)) (hs.keep (keeps_below hw1)) (hl.keep (keeps_below hw1)) HF.out).mono ?_; rintro e w2 ⟨rfl, hb2⟩
      rw [H1.out]
      have hw2 := below_then hb2 hw1.size hw1
      replace bx := bx.below hb2 bx.lt; replace bl := bl.below hb2 bl.lt
      clear q0 q1 p0 p1
      have q0 := bx.d0; have q1 := bx.d1; have p0 := bl.d0; have p1 := bl.d1
      go_wp2
      go_ret
      exact ⟨ret_b E.out.symm, hw2.mono hB⟩
    | true =>
      have H1 := Lib.hid h1
      have HB := Lib.hid (show lasB a.1 a.2 z = true by rw [lasB_eq H0.out, h1])
      have hk := (lasB_parts HB.out).2
      rw [HK.out] at hk
      have hk1 : 1 ≤ k := by have := lasE_1 H1.out; rw [HK.out] at this; exact this
      clear h1
      cases h2 : pairsB ps (n0 : Int) with
      | false =>
        have E := Lib.hid (lasW_2 (a := a) (z := z) (ps := ps) (by rw [HO.out]; exact h2))
        have H2 := Lib.hid h2
        clear h2
        go_enter Try.func20, Try.ntmps20
        go_wp2_with fail
        refine (implArenaOk _ _ _ _ _ _ a.1 a.2 _ _ (Nat.le_refl _) (hr.keep (keeps_below hba)) (hrr.keep (keeps_below hba))).mono ?_; rintro e w1 ⟨rfl, hb1⟩
        rw [H0.out]
        have hw1 := below_then hb1 hba.size hba
        replace bx := bx.below hb1 bx.lt; replace bl := bl.below hb1 bl.lt
        clear q0 q1 p0 p1
        have q0 := bx.d0; have q1 := bx.d1; have p0 := bl.d0; have p1 := bl.d1
        go_wp2_with fail
        refine (isLasso _ _ _ _ _ _ _ _ _ _ _ _ a.1 a.2 z _ _ (Nat.le_refl _) (hr.keep (keeps_below hw1)) (hrr.keep (keeps_below hw1)) (hs.keep (keeps_below hw1)) (hl.keep (keeps_below hw1)) HF.out).mono ?_; rintro e w2 ⟨rfl, hb2⟩
        rw [H1.out]
        have hw2 := below_then hb2 hw1.size hw1
        replace bx := bx.below hb2 bx.lt; replace bl := bl.below hb2 bl.lt
        clear q0 q1 p0 p1
        have q0 := bx.d0; have q1 := bx.d1; have p0 := bl.d0; have p1 := bl.d1
        go_wp2_with fail
        refine (sizeFn _ _ _ _ _ _ _ _ (Nat.le_refl _)).mono ?_; rintro e w3 ⟨rfl, hb3⟩
        have hw3 := below_then hb3 hw2.size hw2
        replace bx := bx.below hb3 bx.lt; replace bl := bl.below hb3 bl.lt
        clear q0 q1 p0 p1
        have q0 := bx.d0; have q1 := bx.d1; have p0 := bl.d0; have p1 := bl.d1
        go_wp2_with fail
        refine (arePairs _ _ _ ps _ _ _ (Nat.le_refl _) (hp.keep (keeps_below hw3))).mono ?_; rintro e w4 ⟨rfl, hb4⟩
        rw [H2.out]
        have hw4 := below_then hb4 hw3.size hw3
        replace bx := bx.below hb4 bx.lt; replace bl := bl.below hb4 bl.lt
        clear q0 q1 p0 p1
        have q0 := bx.d0; have q1 := bx.d1; have p0 := bl.d0; have p1 := bl.d1
        go_wp2
        go_ret
        exact ⟨ret_b E.out.symm, hw4.mono hB⟩
      | true =>
        have hfp := finePs_of h2 (by omega) (by omega)
        have HFP := Lib.hid hfp
        have H2 := Lib.hid h2
        have H2' := Lib.hid (show pairsB ps (a.1.length : Int) = true by rw [HO.out]; exact h2)
        have BM := Lib.hid (show brokenL ps (compL (sortL z.2)) = brokenL ps z.2 from broken_mem fun x => by rw [(comp_asc (sortL_pair z.2)).2, sortL_mem])
        have CLN := Lib.hid (show (compL (sortL z.2)).length ≤ 256 from Nat.le_trans (compL_len _) (by rw [sortL_len, HK.out]; exact hk))
        clear h2 hfp
        by_cases h3 : (brokenL ps z.2).length = 0
        · have E := Lib.hid (lasW_4 HB.out H2'.out h3)
          have h4 : (((brokenL ps z.2).length : Int) == 0) = true := by rw [h3]; rfl
          clear h3
          go_enter Try.func20, Try.ntmps20
          go_wp2_with fail
          refine (implArenaOk _ _ _ _ _ _ a.1 a.2 _ _ (Nat.le_refl _) (hr.keep (keeps_below hba)) (hrr.keep (keeps_below hba))).mono ?_; rintro e w1 ⟨rfl, hb1⟩
          rw [H0.out]
          have hw1 := below_then hb1 hba.size hba
          replace bx := bx.below hb1 bx.lt; replace bl := bl.below hb1 bl.lt
          clear q0 q1 p0 p1
          have q0 := bx.d0; have q1 := bx.d1; have p0 := bl.d0; have p1 := bl.d1
          go_wp2_with fail
          refine (isLasso _ _ _ _ _ _ _ _ _ _ _ _ a.1 a.2 z _ _ (Nat.le_refl _) (hr.keep (keeps_below hw1)) (hrr.keep (keeps_below hw1)) (hs.keep (keeps_below hw1)) (hl.keep (keeps_below hw1)) HF.out).mono ?_; rintro e w2 ⟨rfl, hb2⟩
          rw [H1.out]
          have hw2 := below_then hb2 hw1.size hw1
          replace bx := bx.below hb2 bx.lt; replace bl := bl.below hb2 bl.lt
          clear q0 q1 p0 p1
          have q0 := bx.d0; have q1 := bx.d1; have p0 := bl.d0; have p1 := bl.d1
          go_wp2_with fail
          refine (sizeFn _ _ _ _ _ _ _ _ (Nat.le_refl _)).mono ?_; rintro e w3 ⟨rfl, hb3⟩
          have hw3 := below_then hb3 hw2.size hw2
          replace bx := bx.below hb3 bx.lt; replace bl := bl.below hb3 bl.lt
          clear q0 q1 p0 p1
          have q0 := bx.d0; have q1 := bx.d1; have p0 := bl.d0; have p1 := bl.d1
          go_wp2_with fail
          refine (arePairs _ _ _ ps _ _ _ (Nat.le_refl _) (hp.keep (keeps_below hw3))).mono ?_; rintro e w4 ⟨rfl, hb4⟩
          rw [H2.out]
          have hw4 := below_then hb4 hw3.size hw3
          replace bx := bx.below hb4 bx.lt; replace bl := bl.below hb4 bl.lt
          clear q0 q1 p0 p1
          have q0 := bx.d0; have q1 := bx.d1; have p0 := bl.d0; have p1 := bl.d1
          go_wp2_with fail
          refine (metBy _ _ _ _ _ _ z _ _ (Nat.le_refl _) (hl.keep (keeps_below hw4)) (by omega) hk1).mono ?_; rintro e w5 ⟨vm, rfl, hom, hb5⟩
          obtain ⟨Am, cm, rfl⟩ := hom.form
          have hw5 := below_then hb5 hw4.size hw4
          replace bx := bx.below hb5 bx.lt; replace bl := bl.below hb5 bl.lt
          clear q0 q1 p0 p1
          have q0 := bx.d0; have q1 := bx.d1; have p0 := bl.d0; have p1 := bl.d1
          go_wp2_with fail
          refine (brokenBy _ _ _ _ _ _ ps (compL (sortL z.2)) _ _ (Nat.le_refl _) (hp.keep (keeps_below hw5)) hom.reads HFP.out (by have := CLN.out; omega)).mono ?_; rintro e w6 ⟨v, rfl, ho, hb6⟩
          rw [BM.out] at ho
          obtain ⟨Av, cv, rfl⟩ := ho.form
          have hw6 := below_then hb6 hw5.size hw5
          replace bx := bx.below hb6 bx.lt; replace bl := bl.below hb6 bl.lt
          clear q0 q1 p0 p1
          have q0 := bx.d0; have q1 := bx.d1; have p0 := bl.d0; have p1 := bl.d1
          go_wp2
          go_ret
          exact ⟨ret_b E.out.symm, hw6.mono hB⟩
        · have E := Lib.hid (lasW_3 (a := a) h3)
          have h4 : (((brokenL ps z.2).length : Int) == 0) = false := beq_eq_false_iff_ne.2 (by omega)
          clear h3
          go_enter Try.func20, Try.ntmps20
          go_wp2_with fail
          refine (implArenaOk _ _ _ _ _ _ a.1 a.2 _ _ (Nat.le_refl _) (hr.keep (keeps_below hba)) (hrr.keep (keeps_below hba))).mono ?_; rintro e w1 ⟨rfl, hb1⟩
          rw [H0.out]
          have hw1 := below_then hb1 hba.size hba
          replace bx := bx.below hb1 bx.lt; replace bl := bl.below hb1 bl.lt
          clear q0 q1 p0 p1
          have q0 := bx.d0; have q1 := bx.d1; have p0 := bl.d0; have p1 := bl.d1
          go_wp2_with fail
          refine (isLasso _ _ _ _ _ _ _ _ _ _ _ _ a.1 a.2 z _ _ (Nat.le_refl _) (hr.keep (keeps_below hw1)) (hrr.keep (keeps_below hw1)) (hs.keep (keeps_below hw1)) (hl.keep (keeps_below hw1)) HF.out).mono ?_; rintro e w2 ⟨rfl, hb2⟩
          rw [H1.out]
          have hw2 := below_then hb2 hw1.size hw1
          replace bx := bx.below hb2 bx.lt; replace bl := bl.below hb2 bl.lt
          clear q0 q1 p0 p1
          have q0 := bx.d0; have q1 := bx.d1; have p0 := bl.d0; have p1 := bl.d1
          go_wp2_with fail
          refine (sizeFn _ _ _ _ _ _ _ _ (Nat.le_refl _)).mono ?_; rintro e w3 ⟨rfl, hb3⟩
          have hw3 := below_then hb3 hw2.size hw2
          replace bx := bx.below hb3 bx.lt; replace bl := bl.below hb3 bl.lt
          clear q0 q1 p0 p1
          have q0 := bx.d0; have q1 := bx.d1; have p0 := bl.d0; have p1 := bl.d1
          go_wp2_with fail
          refine (arePairs _ _ _ ps _ _ _ (Nat.le_refl _) (hp.keep (keeps_below hw3))).mono ?_; rintro e w4 ⟨rfl, hb4⟩
          rw [H2.out]
          have hw4 := below_then hb4 hw3.size hw3
          replace bx := bx.below hb4 bx.lt; replace bl := bl.below hb4 bl.lt
          clear q0 q1 p0 p1
          have q0 := bx.d0; have q1 := bx.d1; have p0 := bl.d0; have p1 := bl.d1
          go_wp2_with fail
          refine (metBy _ _ _ _ _ _ z _ _ (Nat.le_refl _) (hl.keep (keeps_below hw4)) (by omega) hk1).mono ?_; rintro e w5 ⟨vm, rfl, hom, hb5⟩
          obtain ⟨Am, cm, rfl⟩ := hom.form
          have hw5 := below_then hb5 hw4.size hw4
          replace bx := bx.below hb5 bx.lt; replace bl := bl.below hb5 bl.lt
          clear q0 q1 p0 p1
          have q0 := bx.d0; have q1 := bx.d1; have p0 := bl.d0; have p1 := bl.d1
          go_wp2_with fail
          refine (brokenBy _ _ _ _ _ _ ps (compL (sortL z.2)) _ _ (Nat.le_refl _) (hp.keep (keeps_below hw5)) hom.reads HFP.out (by have := CLN.out; omega)).mono ?_; rintro e w6 ⟨v, rfl, ho, hb6⟩
          rw [BM.out] at ho
          obtain ⟨Av, cv, rfl⟩ := ho.form
          have hw6 := below_then hb6 hw5.size hw5
          replace bx := bx.below hb6 bx.lt; replace bl := bl.below hb6 bl.lt
          clear q0 q1 p0 p1
          have q0 := bx.d0; have q1 := bx.d1; have p0 := bl.d0; have p1 := bl.d1
          go_wp2
          go_ret
          exact ⟨ret_b E.out.symm, hw6.mono hB⟩
end Go.Proofs.Ytlmhhnplacejkaa
