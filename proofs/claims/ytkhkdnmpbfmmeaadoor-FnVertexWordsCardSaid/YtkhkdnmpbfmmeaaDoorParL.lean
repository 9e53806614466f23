/- Games as arguments: their size, their copy; ParityOk, topIn. -/
import Derived.Test.YtkhkdnmpbfmmeaaDoorArenaL
import Derived.Test.YtkhkdnmpbfmmeaaDoorMarks
import Derived.Test.YtkhkdnmpbfmmeaaDoorCut
namespace Go.Proofs.YtkhkdnmpbfmmeaaDoor
open Go.RowKit

section
variable {w w' : World} {s0 s1 s2 : Value} {g : ParD} {A0 A1 A2 : Option Addr} {n0 c0 n1 c1 n2 c2 : Nat}
theorem RPv.form (h : RPv w s0 s1 s2 g) : ∃ A0 n0 c0 A1 n1 c1 A2 n2 c2, s0 = .slice A0 n0 c0 ∧ s1 = .slice A1 n1 c1 ∧ s2 = .slice A2 n2 c2 := by
  obtain ⟨h1, A, m, c, e, _⟩ := h
  obtain ⟨A0, n0, c0, A1, n1, c1, e0, e1⟩ := h1.form
  exact ⟨A0, n0, c0, A1, n1, c1, A, m, c, e0, e1, e⟩
theorem RPv.ri (h : RPv w (.slice A0 n0 c0) (.slice A1 n1 c1) (.slice A2 n2 c2) g) : RI w A0 n0 c0 g.1 := h.1.ri
theorem RPv.rii (h : RPv w (.slice A0 n0 c0) (.slice A1 n1 c1) (.slice A2 n2 c2) g) : RII w A1 n1 c1 g.2.1 := h.1.rii
theorem RPv.rp (h : RPv w (.slice A0 n0 c0) (.slice A1 n1 c1) (.slice A2 n2 c2) g) : RI w A2 n2 c2 g.2.2 := by
  obtain ⟨_, A, m, c, e, hr⟩ := h
  injection e with e1 e2 e3
  subst e1; subst e2; subst e3
  exact hr
theorem RPv.of (h : RI w A0 n0 c0 g.1) (k : RII w A1 n1 c1 g.2.1) (l : RI w A2 n2 c2 g.2.2) : RPv w (.slice A0 n0 c0) (.slice A1 n1 c1) (.slice A2 n2 c2) g := ⟨RAv.of h k, _, _, _, rfl, l⟩
end
/-- a game that the program takes -/
noncomputable def parB (g : ParD) : Bool := arB g.1 g.2.1 && decide (g.2.2.length = g.1.length ∧ ∀ i, i < g.2.2.length → 0 ≤ gi g.2.2 i ∧ gi g.2.2 i ≤ 40)
theorem parB_ar {g : ParD} (h : arB g.1 g.2.1 = false) : parB g = false := by unfold parB; rw [h]; rfl
theorem parB_no {g : ParD} (h : ¬ (g.2.2.length = g.1.length ∧ ∀ i, i < g.2.2.length → 0 ≤ gi g.2.2 i ∧ gi g.2.2 i ≤ 40)) : parB g = false := by unfold parB; rw [decide_eq_false h, Bool.and_false]
theorem parB_yes {g : ParD} (h : arB g.1 g.2.1 = true) (h2 : g.2.2.length = g.1.length ∧ ∀ i, i < g.2.2.length → 0 ≤ gi g.2.2 i ∧ gi g.2.2 i ≤ 40) : parB g = true := by unfold parB; rw [h, decide_eq_true h2]; rfl
/-- what the walks ask of a game in order -/
def finePar (g : ParD) : Prop := fineAr g.1 g.2.1 ∧ g.2.2.length = g.1.length ∧ ∀ i, i < g.2.2.length → 0 ≤ gi g.2.2 i ∧ gi g.2.2 i ≤ 40
theorem finePar_of {g : ParD} (h : parB g = true) : finePar g := by
  unfold parB at h
  rw [Bool.and_eq_true, decide_eq_true_iff] at h
  exact ⟨fineAr_of h.1, h.2⟩
theorem OPar.join {wC wF : World} {lo loC : Nat} {v0 v1 v2 : Value} {g : ParD} (h : OArn wC loC v0 v1 (g.1, g.2.1)) (f : Far loC wC wF) (h1 : OI 2 wF lo v2 g.2.2) (hlo : lo ≤ loC) (hap : ∀ b, v2.ownBlock = some b → b < loC ∨ wC.heap.size ≤ b) : OPar wF lo v0 v1 v2 g := by
  obtain ⟨cs, h, hd⟩ := h
  have hx : ∀ u, (∀ b, u.ownBlock = some b → loC ≤ b ∧ b < wC.heap.size) → Apart u v2 := fun u hu => by
    unfold Apart
    cases e : u.ownBlock with
    | none => exact .inl rfl
    | some b =>
      right
      intro e2
      have := hu b e
      have := hap b e2.symm
      omega
  refine ⟨cs, (h.hold f).more hlo, h1, Dis.cons (Dis.cons hd.tail fun i hi => (hx _ (h.2.2.lt i hi)).symm) fun i hi => ?_⟩
  cases i with
  | zero => exact hx _ h.1.lt
  | succ i =>
    have hi' : i < cs.length := by simpa using hi
    have := hd 0 (i + 1) (by simp) (by simpa using hi') (by omega)
    simpa [gv] using this
theorem Chg.one {w : World} (b i : Nat) (u : Value) : Chg (fun x => x = b) w (w.setCell ⟨b, i, none⟩ u) := Chg.set ⟨b, i, none⟩ u
set_option maxRecDepth 100000 in
set_option maxHeartbeats 800000 in
theorem implParityOk (s0 s1 s2 : Value) (g : ParD) (w : World) (B : Nat) (hB : B ≤ w.heap.size) (ha : RPv w s0 s1 s2 g) :
    Calls Tryd.prog 73 #[.agg #[s0, s1, s2]] w fun e w' => e = .returned (.bool (parB g)) ∧ Below B w w' := by
  obtain ⟨A0, n0, c0, A1, n1, c1, A2, n2, c2, rfl, rfl, rfl⟩ := ha.form
  have hr := ha.ri; have hrr := ha.rii; have hrp := ha.rp
  have b1 := hr.cap; have b2 := hr.top; have b3 := hrr.cap; have b4 := hrr.top; have b5 := hrp.cap; have b6 := hrp.top
  have HL := Lib.hid hr.len; have HM := Lib.hid hrr.len; have HP := Lib.hid hrp.len
  have hba : Below w.heap.size w (w.alloc (.cells #[.slice A0 n0 c0, .slice A1 n1 c1, .slice A2 n2 c2] 54)) := below_alloc (Nat.le_refl _) (Below.refl _ _)
  have bx := Box.new w 54 #[.slice A0 n0 c0, .slice A1 n1 c1, .slice A2 n2 c2]
  have q0 : (w.alloc (.cells #[.slice A0 n0 c0, .slice A1 n1 c1, .slice A2 n2 c2] 54)).cell? ⟨w.heap.size, 0, none⟩ = some (.slice A0 n0 c0) := bx.cell 0; have q1 : (w.alloc (.cells #[.slice A0 n0 c0, .slice A1 n1 c1, .slice A2 n2 c2] 54)).cell? ⟨w.heap.size, 1, none⟩ = some (.slice A1 n1 c1) := bx.cell 1; have q2 : (w.alloc (.cells #[.slice A0 n0 c0, .slice A1 n1 c1, .slice A2 n2 c2] 54)).cell? ⟨w.heap.size, 2, none⟩ = some (.slice A2 n2 c2) := bx.cell 2
  cases h1 : arB g.1 g.2.1 with
  | false =>
    have E := Lib.hid (parB_ar h1)
    have H1 := Lib.hid h1
    clear h1
    go_enter Tryd.func73, Tryd.ntmps73
    go_wp2_with fail
    refine (implArenaOk _ _ _ _ _ _ _ _ _ _ (Nat.le_refl _) (hr.keep (keeps_below hba)) (hrr.keep (keeps_below hba))).mono ?_; rintro e w1 ⟨rfl, hb1⟩
    rw [H1.out]
    go_wp2
    go_ret
    exact ⟨ret_b E.out.symm, (below_then hb1 hba.size hba).mono hB⟩
  | true =>
    have H1 := Lib.hid h1
    have hn0 := (fineAr_of h1).2.1
    rw [HL.out] at hn0
    clear h1
    by_cases hl : n2 = n0
    · have HE := Lib.hid hl
      have hd1 : ((n2 : Int) != (n0 : Int)) = false := by simp [hl]
      have hd2 : (n2 != n0) = false := by simp [hl]
      have hl2 : n2 ≤ 256 := by omega
      clear hl
      go_enter Tryd.func73, Tryd.ntmps73
      go_wp2_with fail
      refine (implArenaOk _ _ _ _ _ _ _ _ _ _ (Nat.le_refl _) (hr.keep (keeps_below hba)) (hrr.keep (keeps_below hba))).mono ?_; rintro e w1 ⟨rfl, hb1⟩
      rw [H1.out]
      have hw1 := below_then hb1 hba.size hba
      replace bx := bx.on hb1
      clear q0 q1 q2 hb1 hba
      have q0 : w1.cell? ⟨w.heap.size, 0, none⟩ = some (.slice A0 n0 c0) := bx.cell 0; have q1 : w1.cell? ⟨w.heap.size, 1, none⟩ = some (.slice A1 n1 c1) := bx.cell 1; have q2 : w1.cell? ⟨w.heap.size, 2, none⟩ = some (.slice A2 n2 c2) := bx.cell 2
      go_wp2
      go_loopw [22] (fun i wr => ∃ k : Nat, k ≤ n2 ∧ i = .int .i64 k ∧ (∀ j, j < k → 0 ≤ gi g.2.2 j ∧ gi g.2.2 j ≤ 40) ∧ Box wr w.heap.size 54 #[.slice A0 n0 c0, .slice A1 n1 c1, .slice A2 n2 c2] ∧ Below w.heap.size w wr) (fun i _ => n2 - (intOf i).toNat)
      case atStart => exact ⟨0, Nat.zero_le _, rfl, by omega, bx, hw1⟩
      case round =>
        obtain ⟨k, hk, rfl, hall, bxr, hbr⟩ := hrel
        have HA := Lib.hid hall
        clear hall q0 q1 q2 bx
        have q0 : wr.cell? ⟨w.heap.size, 0, none⟩ = some (.slice A0 n0 c0) := bxr.cell 0; have q1 : wr.cell? ⟨w.heap.size, 1, none⟩ = some (.slice A1 n1 c1) := bxr.cell 1; have q2 : wr.cell? ⟨w.heap.size, 2, none⟩ = some (.slice A2 n2 c2) := bxr.cell 2
        by_cases hlt : k < n2
        · obtain ⟨bb, ob, rfl, hc⟩ := (hrp.keep (keeps_below hbr)).at_ hlt
          have hki : (k : Int) < (n2 : Int) := by omega
          have hk0' : (0 : Int) ≤ (k : Int) := by omega
          by_cases hkk : 0 ≤ gi g.2.2 k ∧ gi g.2.2 k ≤ 40
          · have HK := Lib.hid hkk
            have k1 := hkk.1; have k2 := hkk.2
            clear hkk
            go_wp2
            go_roundw
            case rel => exact ⟨k + 1, by omega, by go_num, all_succ HA.out HK.out, bxr, hbr⟩
            case measure => simp [intOf]; omega
          · have E := Lib.hid (show parB g = false from parB_no fun h => hkk (h.2 k (by rw [HP.out]; exact hlt)))
            by_cases hk0 : gi g.2.2 k < 0
            · clear hkk
              go_wp2
              go_ret
              exact ⟨ret_b E.out.symm, hbr.mono hB⟩
            · have hk1 : 40 < gi g.2.2 k := by omega
              have hk2 : 0 ≤ gi g.2.2 k := by omega
              clear hkk
              go_wp2
              go_ret
              exact ⟨ret_b E.out.symm, hbr.mono hB⟩
        · obtain rfl : k = n2 := by omega
          have E := Lib.hid (show parB g = true from parB_yes H1.out ⟨by rw [HP.out, HL.out]; exact HE.out, by rw [HP.out]; exact HA.out⟩)
          go_wp2
          go_ret
          exact ⟨ret_b E.out.symm, hbr.mono hB⟩
    · have E := Lib.hid (show parB g = false from parB_no fun h => hl (by rw [← HL.out, ← HP.out]; exact h.1))
      have hd1 : ((n2 : Int) != (n0 : Int)) = true := by simp; omega
      have hd2 : (n2 != n0) = true := by simp [hl]
      clear hl
      go_enter Tryd.func73, Tryd.ntmps73
      go_wp2_with fail
      refine (implArenaOk _ _ _ _ _ _ _ _ _ _ (Nat.le_refl _) (hr.keep (keeps_below hba)) (hrr.keep (keeps_below hba))).mono ?_; rintro e w1 ⟨rfl, hb1⟩
      rw [H1.out]
      have hw1 := below_then hb1 hba.size hba
      replace bx := bx.on hb1
      clear q0 q1 q2 hb1 hba
      have q0 : w1.cell? ⟨w.heap.size, 0, none⟩ = some (.slice A0 n0 c0) := bx.cell 0; have q1 : w1.cell? ⟨w.heap.size, 1, none⟩ = some (.slice A1 n1 c1) := bx.cell 1; have q2 : w1.cell? ⟨w.heap.size, 2, none⟩ = some (.slice A2 n2 c2) := bx.cell 2
      go_wp2
      go_ret
      exact ⟨ret_b E.out.symm, hw1.mono hB⟩

end Go.Proofs.YtkhkdnmpbfmmeaaDoor
