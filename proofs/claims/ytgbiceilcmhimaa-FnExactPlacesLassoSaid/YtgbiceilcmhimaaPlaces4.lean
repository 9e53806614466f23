/- markPlaceS. -/
import Derived.Test.YtgbiceilcmhimaaPlaces3
import Derived.Test.YtgbiceilcmhimaaUse
namespace Go.Proofs.Ytgbiceilcmhimaa
open Go.RowKit

theorem eqQs_self (ps : List PlaceD) : eqQs ps ps = true := by simp [eqQs]
def totQ (ps : List PlaceD) : Nat := szQs ps
theorem sumQ_le (ps : List PlaceD) (k : Nat) : sumQ ps k ≤ (ps.map szQ).sum := by
  unfold sumQ
  conv => rhs; rw [← List.take_append_drop k ps]
  rw [List.map_append, List.sum_append]
  omega
theorem OQS.hold {lo : Nat} {v : Value} {ps : List PlaceD} {wb w : World} (h : OQS wb lo v ps) (f : Far lo wb w) : OQS w lo v ps := by
  obtain ⟨cs, h1, h2, h3⟩ := h
  exact ⟨cs, row_hold h1 f, fun i hi => ⟨(h2 i hi).1, (h2 i hi).2.hold f⟩, h3⟩

set_option maxRecDepth 100000 in
set_option maxHeartbeats 800000 in
theorem markPlaceSU (A : Option Addr) (n c : Nat) (ps : List PlaceD) (k : Int) (w : World) (lo : Nat) (wb : World) (hlo : lo ≤ wb.heap.size) (ho : OQS wb lo (.slice A n c) ps) (hb : Far lo wb w) (hk0 : 0 ≤ k) (hk1 : k + totQ ps ≤ 4611686018427387904) :
    Calls Try.prog 23 #[.slice A n c, .int .i64 k] w fun e w' => e = .returned (.int .i64 (k + totQ ps)) ∧ True ∧ Chg (fun b => lo ≤ b ∧ b < wb.heap.size) w w' := by
  obtain ⟨cs, r0, l0, hd⟩ := ho
  have lt0 : ∀ i, i < ps.length → ∀ b, (gv cs (i * 2 + 1)).ownBlock = some b → lo ≤ b ∧ b < wb.heap.size := fun i hi b hbb => (l0 i hi).2.lt b hbb
  have ltr := World.ownsRow.lt r0
  have r1 := row_hold r0 hb
  have l1 : ∀ i, i < ps.length → OI 2 w lo (gv cs (i * 2 + 1)) (gq ps i).2 := fun i hi => (l0 i hi).2.hold hb
  clear r0 l0
  have hlen := row_len r1
  obtain ⟨A0, c0, e0, q1, q2, hg⟩ := row_form r1
  injection e0 with e1 e2 e3
  subst e1; subst e3
  have HL := Lib.hid e2.symm
  rw [← e2] at r1 hlen hg q1 lt0 l1
  clear e2
  have HLEN := Lib.hid hlen
  have HD := Lib.hid hd
  have HT := Lib.hid lt0
  have HTR := Lib.hid ltr
  have HR1 := Lib.hid r1
  have HL1 := Lib.hid l1
  clear hlen hd lt0 r1 l1 ltr
  have htot : totQ ps = n + sumQ ps n := sumQ_all HL.out
  have htl := sumQ_le ps
  have hmono := fun j (hj : j ≤ n) => sumQ_mono (ps := ps) hj
  have HM := Lib.hid hmono
  have HTOT := Lib.hid htot
  clear hmono htl
  rw [htot] at hk1
  clear htot
  go_enter Try.func23, Try.ntmps23
  go_wp2
  go_loopw [1, 5] (fun s i wr => ∃ (j : Nat) (r : Int), j ≤ n ∧ i = .int .i64 j ∧ s = .int .i64 r ∧ 0 ≤ r ∧ r = k + (j + sumQ ps j : Nat) ∧
      (∃ cs', wr.ownsRow lo 92 2 (.slice A n c) n cs' ∧ (∀ i, i < n → gv cs' (i * 2 + 1) = gv cs (i * 2 + 1))) ∧ (∀ i, j ≤ i → i < n → OI 2 wr lo (gv cs (i * 2 + 1)) (gq ps i).2) ∧ Chg (fun b => lo ≤ b ∧ b < wb.heap.size) w wr) (fun _ i _ => n - (intOf i).toNat)
  case atStart => exact ⟨0, k, Nat.zero_le _, rfl, rfl, hk0, by simp [sumQ], ⟨cs, HR1.out, fun _ _ => rfl⟩, fun i _ hi => HL1.out i hi, Chg.refl _ _⟩
  case round =>
    obtain ⟨j, r, hj, rfl, rfl, hr0, hr2, ⟨cs', hrow, hsame⟩, hol, hch⟩ := hrel
    have HR := Lib.hid hr2
    have HW := Lib.hid hrow
    have HO := Lib.hid hol
    have HC := Lib.hid hch
    have HSM := Lib.hid hsame
    have hcl := row_len hrow
    have HCL := Lib.hid hcl
    clear hr2 hrow hol hch hsame hcl
    by_cases hlt : j < n
    · obtain ⟨g, rfl⟩ := hg (by omega)
      have m1 : j * 2 < n * 2 := by omega
      have o1 := HO.out j (Nat.le_refl _) hlt
      obtain ⟨A1, c1, e1⟩ := o1.form
      have k0 := row_cell HW.out (j := j * 2) m1
      have k1 := row_cell HW.out (j := j * 2 + 1) (by omega)
      have hf0 : wr.frozen? ⟨g, j * 2, none⟩ = false := World.ownsRow.frozenAt HW.out (j * 2)
      rw [HSM.out j hlt, e1] at k1
      have E1 := Lib.hid e1
      rw [e1] at o1
      clear e1
      have hne := own_ne o1 HW.out (by decide)
      have hsum := Lib.hid (sumQ_succ (ps := ps) (k := j) (by rw [HL.out]; exact hlt))
      have hle := HM.out (j + 1) (by omega)
      rw [hsum.out] at hle
      unfold szQ at hle
      have hkk : r + 1 + (gq ps j).2.length ≤ 4611686018427387904 := by have := HR.out; omega
      have hji : (j : Int) < (n : Int) := by omega
      have hj0 : (0 : Int) ≤ (j : Int) := by omega
      have hcs := Chg.set (w := wr) ⟨g, j * 2, none⟩ (.int .i64 r)
      have hrow2 := (World.ownsRow.stored HW.out (j * 2) (.int .i64 r)).1
      have o2 := o1.chg hcs (fun b hb hs => hne b hb (by have : b = g := hs; rw [this]; rfl))
      have hk1' : (wr.setCell ⟨g, j * 2, none⟩ (.int .i64 r)).cell? ⟨g, j * 2 + 1, none⟩ = some (.slice A1 (gq ps j).2.length c1) := by
        have := row_cell (World.ownsRow.stored HW.out (j * 2) (.int .i64 r)).1 (j := j * 2 + 1) (by omega)
        rw [this, gv_set (by rw [HCL.out]; omega), if_neg (by omega)]; rw [HSM.out j hlt, E1.out]
      have hkk2 : r + 1 ≤ 4611686018427387904 := by omega
      have HROW := Lib.hid hrow2
      have HCS := Lib.hid hcs
      clear hrow2 hcs hle hne
      go_wp2_with fail
      refine (markInts _ _ _ _ _ _ _ o2 (by omega) (by omega)).mono ?_; rintro e w2 ⟨rfl, ho2, hg2⟩
      have hc2 := Chg.of_grown hg2
      have hrow3 := row_chg HROW.out hc2 (fun b hb hs => own_ne o2 HROW.out (by decide) b hs hb)
      go_wp2
      go_roundw
      case rel =>
        refine ⟨j + 1, r + 1 + (gq ps j).2.length, by omega, by go_num, rfl, by omega, ?_, ⟨_, hrow3, fun i hi => ?_⟩, fun i hji hi => ?_, ?_⟩
        · rw [hsum.out, HR.out]; unfold szQ; omega
        · rw [gv_set (by rw [HCL.out]; omega), if_neg (by omega)]; exact HSM.out i hi
        · have hi1 := HO.out i (by omega) hi
          have hi2 := hi1.chg HCS.out (fun b hb hs => own_ne hi1 HW.out (by decide) b hb (by have : b = g := hs; rw [this]; rfl))
          refine hi2.chg hc2 (fun b hb hs => ?_)
          have hap := HD.out (i * 2 + 1) (j * 2 + 1) (by rw [HLEN.out]; omega) (by rw [HLEN.out]; omega) (by omega)
          rw [E1.out] at hap
          exact apart_not hap hb hs
        · refine (HC.out.trans HCS.out (fun _ h => h) (fun b hb => ?_)).trans hc2 (fun _ h => h) (fun b hb => ?_)
          · have : b = g := hb
            rw [this]
            exact HTR.out g rfl
          · have := HT.out j hlt b
            rw [E1.out] at this
            exact this hb
      case measure => simp [intOf]; omega
    · obtain rfl : j = n := by omega
      go_wp2
      go_ret
      exact ⟨ret_i (by rw [HR.out, HTOT.out]), trivial, HC.out⟩
end Go.Proofs.Ytgbiceilcmhimaa
