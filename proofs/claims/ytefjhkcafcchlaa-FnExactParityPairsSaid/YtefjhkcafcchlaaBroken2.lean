/- MetWell and BrokenBy, spec and impl. -/
import Derived.Test.YtefjhkcafcchlaaBroken
namespace Go.Proofs.Ytefjhkcafcchlaa
open Go.RowKit

noncomputable def okPM (ps : List PairD) (met : List Int) : Bool := pairsB ps 256 && setB met 256
noncomputable def brokenR (ps : List PairD) (met : List Int) : List Int := if okPM ps met = true then brokenL ps met else []
noncomputable def metW (ps : List PairD) (met : List Int) : Bool := okPM ps met && (brokenL ps met).length == 0
theorem in256 : inR 256 0 256 = true := by decide
theorem in256a (b : Bool) : (inR 256 0 256 && b) = b := by rw [in256]; rfl
theorem brokenR_len (ps : List PairD) (met : List Int) : (brokenR ps met).length ≤ 4 := by
  unfold brokenR
  split
  · rename_i h
    unfold okPM pairsB at h
    simp only [Bool.and_eq_true] at h
    have := of_decide_eq_true h.1.1
    have := broken_len ps met ps.length
    unfold brokenL
    omega
  · simp

set_option maxRecDepth 100000 in
set_option maxHeartbeats 400000 in
theorem implMetWell (A C : Option Addr) (n c m d : Nat) (ps : List PairD) (met : List Int) (w : World) (B : Nat) (hB : B ≤ w.heap.size) (ha : RPS w A n c ps) (hb : RI w C m d met) :
    Calls Try.prog 71 #[.slice A n c, .slice C m d] w fun e w' => e = .returned (.bool (metW ps met)) ∧ Below B w w' := by
  have b1 := ha.cap; have b2 := ha.top; have b3 := hb.cap; have b4 := hb.top
  have L1 := ha.len; have L2 := hb.len
  have HL1 := Lib.hid L1; have HL2 := Lib.hid L2
  clear L1 L2
  by_cases h1 : pairsB ps 256 = true
  · by_cases h2 : setB met 256 = true
    · have HO := Lib.hid (show okPM ps met = true by unfold okPM; rw [h1, h2]; rfl)
      have hf := finePs_of h1 (by omega) (by omega)
      have hn : n ≤ 1048576 := by have := hf.1; rw [HL1.out] at this; omega
      have hm : m ≤ 1048576 := by have := set_len h2 (by omega); rw [HL2.out] at this; omega
      by_cases h3 : (brokenL ps met).length = 0
      · have E := Lib.hid (show metW ps met = true by unfold metW; rw [HO.out, h3]; rfl)
        have h4 : (((brokenL ps met).length : Int) == 0) = true := by rw [h3]; rfl
        clear h3
        go_enter Try.func71, Try.ntmps71
        go_wp2_with fail
        refine (arePairs _ _ _ _ _ _ _ (Nat.le_refl _) ha).mono ?_; rintro e w1 ⟨rfl, hb1⟩
        go_wp2_with fail
        refine (isSet _ _ _ _ _ _ (hb.keep (keeps_below hb1))).mono ?_; rintro e w2 ⟨rfl, hq2⟩
        have hb2 := below_qt hq2 hb1
        go_wp2_with fail
        refine (brokenBy _ _ _ _ _ _ _ _ _ _ (Nat.le_refl _) (ha.keep (keeps_below hb2)) (hb.keep (keeps_below hb2)) hf hm).mono ?_; rintro e w3 ⟨v, rfl, ho, hb3⟩
        obtain ⟨Av, cv, rfl⟩ := ho.form
        have hb4 := below_then hb3 hb2.size hb2
        go_wp2
        go_ret
        exact ⟨ret_b E.out.symm, hb4.mono hB⟩
      · have E := Lib.hid (show metW ps met = false by unfold metW; rw [HO.out]; simpa using h3)
        have h4 : (((brokenL ps met).length : Int) == 0) = false := beq_eq_false_iff_ne.2 (by omega)
        clear h3
        go_enter Try.func71, Try.ntmps71
        go_wp2_with fail
        refine (arePairs _ _ _ _ _ _ _ (Nat.le_refl _) ha).mono ?_; rintro e w1 ⟨rfl, hb1⟩
        go_wp2_with fail
        refine (isSet _ _ _ _ _ _ (hb.keep (keeps_below hb1))).mono ?_; rintro e w2 ⟨rfl, hq2⟩
        have hb2 := below_qt hq2 hb1
        go_wp2_with fail
        refine (brokenBy _ _ _ _ _ _ _ _ _ _ (Nat.le_refl _) (ha.keep (keeps_below hb2)) (hb.keep (keeps_below hb2)) hf hm).mono ?_; rintro e w3 ⟨v, rfl, ho, hb3⟩
        obtain ⟨Av, cv, rfl⟩ := ho.form
        have hb4 := below_then hb3 hb2.size hb2
        go_wp2
        go_ret
        exact ⟨ret_b E.out.symm, hb4.mono hB⟩
    · replace h2 : setB met 256 = false := by simpa using h2
      have HO := Lib.hid (show okPM ps met = false by unfold okPM; rw [h2]; simp)
      have E := Lib.hid (show metW ps met = false by unfold metW; rw [HO.out]; rfl)
      go_enter Try.func71, Try.ntmps71
      go_wp2_with fail
      refine (arePairs _ _ _ _ _ _ _ (Nat.le_refl _) ha).mono ?_; rintro e w1 ⟨rfl, hb1⟩
      go_wp2_with fail
      refine (isSet _ _ _ _ _ _ (hb.keep (keeps_below hb1))).mono ?_; rintro e w2 ⟨rfl, hq2⟩
      have hb2 := below_qt hq2 hb1
      go_wp2
      go_ret
      exact ⟨ret_b E.out.symm, hb2.mono hB⟩
  · replace h1 : pairsB ps 256 = false := by simpa using h1
    have HO := Lib.hid (show okPM ps met = false by unfold okPM; rw [h1]; rfl)
    have E := Lib.hid (show metW ps met = false by unfold metW; rw [HO.out]; rfl)
    go_enter Try.func71, Try.ntmps71
    go_wp2_with fail
    refine (arePairs _ _ _ _ _ _ _ (Nat.le_refl _) ha).mono ?_; rintro e w1 ⟨rfl, hb1⟩
    go_wp2
    go_ret
    exact ⟨ret_b E.out.symm, hb1.mono hB⟩

end Go.Proofs.Ytefjhkcafcchlaa
