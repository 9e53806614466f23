/- Games as arguments: their size, their copy; ParityOk, topIn. -/
import Derived.Test.YtkhkdnmpbfmmeaaDoorArenaL
import Derived.Test.YtkhkdnmpbfmmeaaDoorMarks
import Derived.Test.YtkhkdnmpbfmmeaaDoorCut
namespace Go.Proofs.YtkhkdnmpbfmmeaaDoor
open Go.RowKit

section
variable {w w' : World} {s0 s1 s2 : Value} {g : ParD} {A0 A1 A2 : Option Addr} {n0 c0 n1 c1 n2 c2 : Nat}
theorem RPv.form (h : RPv w s0 s1 s2 g) : ∃ A0 n0 c0 A1 n1 c1 A2 n2 c2, s0 = .slice A0 n0 c0 ∧ s1 = .slice A1 n1 c1 ∧ s2 = .slice A2 n2 c2 := by
  obtain ⟨h1, A, m, c, e, _⟩ := h
  obtain ⟨A0, n0, c0, A1, n1, c1, e0, e1⟩ := h1.form
  exact ⟨A0, n0, c0, A1, n1, c1, A, m, c, e0, e1, e⟩
theorem RPv.ri (h : RPv w (.slice A0 n0 c0) (.slice A1 n1 c1) (.slice A2 n2 c2) g) : RI w A0 n0 c0 g.1 := h.1.ri
theorem RPv.rii (h : RPv w (.slice A0 n0 c0) (.slice A1 n1 c1) (.slice A2 n2 c2) g) : RII w A1 n1 c1 g.2.1 := h.1.rii
theorem RPv.rp (h : RPv w (.slice A0 n0 c0) (.slice A1 n1 c1) (.slice A2 n2 c2) g) : RI w A2 n2 c2 g.2.2 := by
  obtain ⟨_, A, m, c, e, hr⟩ := h
  injection e with e1 e2 e3
  subst e1; subst e2; subst e3
  exact hr
theorem RPv.of (h : RI w A0 n0 c0 g.1) (k : RII w A1 n1 c1 g.2.1) (l : RI w A2 n2 c2 g.2.2) : RPv w (.slice A0 n0 c0) (.slice A1 n1 c1) (.slice A2 n2 c2) g := ⟨RAv.of h k, _, _, _, rfl, l⟩
end
def szPar (g : ParD) : Nat := szAr (g.1, g.2.1) + g.2.2.length
/-- a game that the program takes -/
noncomputable def parB (g : ParD) : Bool := arB g.1 g.2.1 && decide (g.2.2.length = g.1.length ∧ ∀ i, i < g.2.2.length → 0 ≤ gi g.2.2 i ∧ gi g.2.2 i ≤ 40)
theorem parB_ar {g : ParD} (h : arB g.1 g.2.1 = false) : parB g = false := by unfold parB; rw [h]; rfl
theorem parB_no {g : ParD} (h : ¬ (g.2.2.length = g.1.length ∧ ∀ i, i < g.2.2.length → 0 ≤ gi g.2.2 i ∧ gi g.2.2 i ≤ 40)) : parB g = false := by unfold parB; rw [decide_eq_false h, Bool.and_false]
theorem parB_yes {g : ParD} (h : arB g.1 g.2.1 = true) (h2 : g.2.2.length = g.1.length ∧ ∀ i, i < g.2.2.length → 0 ≤ gi g.2.2 i ∧ gi g.2.2 i ≤ 40) : parB g = true := by unfold parB; rw [h, decide_eq_true h2]; rfl
/-- what the walks ask of a game in order -/
def finePar (g : ParD) : Prop := fineAr g.1 g.2.1 ∧ g.2.2.length = g.1.length ∧ ∀ i, i < g.2.2.length → 0 ≤ gi g.2.2 i ∧ gi g.2.2 i ≤ 40
theorem finePar_of {g : ParD} (h : parB g = true) : finePar g := by
  unfold parB at h
  rw [Bool.and_eq_true, decide_eq_true_iff] at h
  exact ⟨fineAr_of h.1, h.2⟩
set_option maxRecDepth 100000 in
set_option maxHeartbeats 400000 in
theorem szParity (s0 s1 s2 : Value) (g : ParD) (l : Int) (w : World) (B : Nat) (hB : B ≤ w.heap.size) (ha : RPv w s0 s1 s2 g) (h0 : 0 ≤ l) (h1 : l ≤ 1048576) :
    Calls Tryd.prog 31 #[.agg #[s0, s1, s2], .int .i64 l] w fun e w' => e = .returned (.int .i64 (szF l (szPar g : Nat))) ∧ Below B w w' := by
  have har := ha.1
  obtain ⟨A0, n0, c0, A1, n1, c1, A2, n2, c2, rfl, rfl, rfl⟩ := ha.form
  have hr := ha.ri; have hrr := ha.rii; have hrp := ha.rp
  have b1 := hr.cap; have b2 := hr.top; have b3 := hrr.cap; have b4 := hrr.top; have b5 := hrp.cap; have b6 := hrp.top
  have HL := Lib.hid hr.len; have HM := Lib.hid hrr.len; have HP := Lib.hid hrp.len
  have hba : Below w.heap.size w (w.alloc (.cells #[.slice A0 n0 c0, .slice A1 n1 c1, .slice A2 n2 c2] 49)) := below_alloc (Nat.le_refl _) (Below.refl _ _)
  have bx := Box.new w 49 #[.slice A0 n0 c0, .slice A1 n1 c1, .slice A2 n2 c2]
  have q0 : (w.alloc (.cells #[.slice A0 n0 c0, .slice A1 n1 c1, .slice A2 n2 c2] 49)).cell? ⟨w.heap.size, 0, none⟩ = some (.slice A0 n0 c0) := bx.cell 0; have q1 : (w.alloc (.cells #[.slice A0 n0 c0, .slice A1 n1 c1, .slice A2 n2 c2] 49)).cell? ⟨w.heap.size, 1, none⟩ = some (.slice A1 n1 c1) := bx.cell 1; have q2 : (w.alloc (.cells #[.slice A0 n0 c0, .slice A1 n1 c1, .slice A2 n2 c2] 49)).cell? ⟨w.heap.size, 2, none⟩ = some (.slice A2 n2 c2) := bx.cell 2
  by_cases hn : ((szAr (g.1, g.2.1) : Nat) : Int) ≤ l
  · have E1 := Lib.hid (szF_yes hn)
    have E2 := Lib.hid (show szF (l - (szAr (g.1, g.2.1) : Nat)) n2 = szF l (szPar g : Nat) by unfold szPar; rw [HP.out]; exact szF_three hn)
    go_enter Tryd.func31, Tryd.ntmps31
    go_wp2_with fail
    refine (szArena _ _ (g.1, g.2.1) _ _ _ (Nat.le_refl _) (har.keep (keeps_below hba)) h0 h1).mono ?_; rintro e w1 ⟨rfl, hb1⟩
    rw [E1.out]
    have hw1 := below_then hb1 hba.size hba
    replace bx := bx.on hb1
    clear q0 q1 q2
    have q0 : w1.cell? ⟨w.heap.size, 0, none⟩ = some (.slice A0 n0 c0) := bx.cell 0; have q1 : w1.cell? ⟨w.heap.size, 1, none⟩ = some (.slice A1 n1 c1) := bx.cell 1; have q2 : w1.cell? ⟨w.heap.size, 2, none⟩ = some (.slice A2 n2 c2) := bx.cell 2
    have hl2 : l - (szAr (g.1, g.2.1) : Nat) ≤ 1048576 := by omega
    have hl3 : 0 ≤ l - (szAr (g.1, g.2.1) : Nat) := by omega
    go_wp2_with fail
    refine (szInts _ _ _ _ _ hl3 hl2 (by omega)).mono ?_; rintro e w2 ⟨rfl, hq2⟩
    rw [E2.out]
    have hb2 := below_qt hq2 hw1
    obtain ⟨G, hG⟩ : ∃ G, szF l (szPar g : Nat) = G := ⟨_, rfl⟩
    rw [hG]
    have HG := Lib.hid hG
    have hG1 : G = -1 ∨ 0 ≤ G := by
      by_cases h3 : ((szPar g : Nat) : Int) ≤ l
      · rw [szF_yes h3] at hG; right; omega
      · rw [szF_no h3] at hG; left; omega
    clear hG E2
    rcases hG1 with rfl | hG1
    · go_wp2
      go_ret
      exact ⟨ret_i HG.out.symm, hb2.mono hB⟩
    · go_wp2
      go_ret
      exact ⟨ret_i HG.out.symm, hb2.mono hB⟩
  · have E1 := Lib.hid (szF_no hn)
    have E2 := Lib.hid (show szF l (szPar g : Nat) = -1 from szF_no (by unfold szPar; omega))
    clear hn
    go_enter Tryd.func31, Tryd.ntmps31
    go_wp2_with fail
    refine (szArena _ _ (g.1, g.2.1) _ _ _ (Nat.le_refl _) (har.keep (keeps_below hba)) h0 h1).mono ?_; rintro e w1 ⟨rfl, hb1⟩
    rw [E1.out]
    go_wp2
    go_ret
    exact ⟨ret_i E2.out.symm, (below_then hb1 hba.size hba).mono hB⟩


theorem OPar.join {wC wF : World} {lo loC : Nat} {v0 v1 v2 : Value} {g : ParD} (h : OArn wC loC v0 v1 (g.1, g.2.1)) (f : Far loC wC wF) (h1 : OI 2 wF lo v2 g.2.2) (hlo : lo ≤ loC) (hap : ∀ b, v2.ownBlock = some b → b < loC ∨ wC.heap.size ≤ b) : OPar wF lo v0 v1 v2 g := by
  obtain ⟨cs, h, hd⟩ := h
  have hx : ∀ u, (∀ b, u.ownBlock = some b → loC ≤ b ∧ b < wC.heap.size) → Apart u v2 := fun u hu => by
    unfold Apart
    cases e : u.ownBlock with
    | none => exact .inl rfl
    | some b =>
      right
      intro e2
      have := hu b e
      have := hap b e2.symm
      omega
  refine ⟨cs, (h.hold f).more hlo, h1, Dis.cons (Dis.cons hd.tail fun i hi => (hx _ (h.2.2.lt i hi)).symm) fun i hi => ?_⟩
  cases i with
  | zero => exact hx _ h.1.lt
  | succ i =>
    have hi' : i < cs.length := by simpa using hi
    have := hd 0 (i + 1) (by simp) (by simpa using hi') (by omega)
    simpa [gv] using this
theorem Chg.one {w : World} (b i : Nat) (u : Value) : Chg (fun x => x = b) w (w.setCell ⟨b, i, none⟩ u) := Chg.set ⟨b, i, none⟩ u
theorem Far.of_chg {S : Nat → Prop} {lo : Nat} {wb w w' : World} (f : Far lo wb w) (hc : Chg S w w') (hS : ∀ b, S b → b < lo ∨ wb.heap.size ≤ b) : Far lo wb w' :=
  Chg.trans f hc (fun _ h => h) (fun x hx hs => by have := hS x hx; omega)

set_option maxRecDepth 100000 in
set_option maxHeartbeats 1600000 in
theorem toParity (s0 s1 s2 : Value) (g : ParD) (w : World) (B : Nat) (hB : B ≤ w.heap.size) (ha : RPv w s0 s1 s2 g) (hn : szPar g ≤ 1048576) :
    Calls Tryd.prog 33 #[.agg #[s0, s1, s2]] w fun e w' => ∃ t0 t1 t2, e = .returned (.agg #[t0, t1, t2]) ∧ OPar w' B t0 t1 t2 g ∧ Below B w w' := by
  have har := ha.1
  obtain ⟨A0, n0, c0, A1, n1, c1, A2, n2, c2, rfl, rfl, rfl⟩ := ha.form
  have hr := ha.ri; have hrr := ha.rii; have hrp := ha.rp
  have b1 := hr.cap; have b2 := hr.top; have b3 := hrr.cap; have b4 := hrr.top; have b5 := hrp.cap; have b6 := hrp.top
  have HL := Lib.hid hr.len; have HM := Lib.hid hrr.len; have HP := Lib.hid hrp.len
  have hn0 : szAr (g.1, g.2.1) ≤ 1048576 := by unfold szPar at hn; omega
  have hn2 : n2 ≤ 1048576 := by have := HP.out; unfold szPar at hn; omega
  have hba : Below w.heap.size w (((w.alloc (.cells #[.slice A0 n0 c0, .slice A1 n1 c1, .slice A2 n2 c2] 49)).alloc (.cells #[.slice none 0 0, .slice none 0 0, .slice none 0 0] 54)).alloc (.cells #[.slice none 0 0, .slice none 0 0, .slice none 0 0] 54)) := below_alloc (Nat.le_refl _) (below_alloc (Nat.le_refl _) (below_alloc (Nat.le_refl _) (Below.refl _ _)))
  have bx := ((Box.new w 49 #[.slice A0 n0 c0, .slice A1 n1 c1, .slice A2 n2 c2]).alloc (.cells #[.slice none 0 0, .slice none 0 0, .slice none 0 0] 54)).alloc (.cells #[.slice none 0 0, .slice none 0 0, .slice none 0 0] 54)
  have br : Box (((w.alloc (.cells #[.slice A0 n0 c0, .slice A1 n1 c1, .slice A2 n2 c2] 49)).alloc (.cells #[.slice none 0 0, .slice none 0 0, .slice none 0 0] 54)).alloc (.cells #[.slice none 0 0, .slice none 0 0, .slice none 0 0] 54)) (w.heap.size + 1) 54 #[.slice none 0 0, .slice none 0 0, .slice none 0 0] := (Box.new' (by simp)).alloc _
  have bo : Box (((w.alloc (.cells #[.slice A0 n0 c0, .slice A1 n1 c1, .slice A2 n2 c2] 49)).alloc (.cells #[.slice none 0 0, .slice none 0 0, .slice none 0 0] 54)).alloc (.cells #[.slice none 0 0, .slice none 0 0, .slice none 0 0] 54)) (w.heap.size + 1 + 1) 54 #[.slice none 0 0, .slice none 0 0, .slice none 0 0] := Box.new' (by simp)
  have hsz : w.heap.size + 3 ≤ (((w.alloc (.cells #[.slice A0 n0 c0, .slice A1 n1 c1, .slice A2 n2 c2] 49)).alloc (.cells #[.slice none 0 0, .slice none 0 0, .slice none 0 0] 54)).alloc (.cells #[.slice none 0 0, .slice none 0 0, .slice none 0 0] 54)).heap.size := by simp
  have q0 : (((w.alloc (.cells #[.slice A0 n0 c0, .slice A1 n1 c1, .slice A2 n2 c2] 49)).alloc (.cells #[.slice none 0 0, .slice none 0 0, .slice none 0 0] 54)).alloc (.cells #[.slice none 0 0, .slice none 0 0, .slice none 0 0] 54)).cell? ⟨w.heap.size, 0, none⟩ = some (.slice A0 n0 c0) := bx.cell 0; have q1 : (((w.alloc (.cells #[.slice A0 n0 c0, .slice A1 n1 c1, .slice A2 n2 c2] 49)).alloc (.cells #[.slice none 0 0, .slice none 0 0, .slice none 0 0] 54)).alloc (.cells #[.slice none 0 0, .slice none 0 0, .slice none 0 0] 54)).cell? ⟨w.heap.size, 1, none⟩ = some (.slice A1 n1 c1) := bx.cell 1; have q2 : (((w.alloc (.cells #[.slice A0 n0 c0, .slice A1 n1 c1, .slice A2 n2 c2] 49)).alloc (.cells #[.slice none 0 0, .slice none 0 0, .slice none 0 0] 54)).alloc (.cells #[.slice none 0 0, .slice none 0 0, .slice none 0 0] 54)).cell? ⟨w.heap.size, 2, none⟩ = some (.slice A2 n2 c2) := bx.cell 2
  go_enter Tryd.func33, Tryd.ntmps33
  go_wp2_with fail
  generalize (((w.alloc (.cells #[.slice A0 n0 c0, .slice A1 n1 c1, .slice A2 n2 c2] 49)).alloc (.cells #[.slice none 0 0, .slice none 0 0, .slice none 0 0] 54)).alloc (.cells #[.slice none 0 0, .slice none 0 0, .slice none 0 0] 54)) = W at *
  clear q0 q1 q2
  refine (toArena _ _ (g.1, g.2.1) _ _ (Nat.le_refl _) (har.keep (keeps_below hba)) hn0).mono ?_; rintro e w1 ⟨v0, v1, rfl, ho0, hb1⟩
  obtain ⟨B0, d0, B1, d1, rfl, rfl⟩ := ho0.form
  have hw1 := below_then hb1 hba.size hba
  replace bx := bx.on hb1; replace br := br.on hb1; replace bo := bo.on hb1
  have hz1 := hb1.size
  have hs1 : w.heap.size + 3 ≤ w1.heap.size := by omega
  have f0 := Far.refl W.heap.size w1
  have p0 : w1.cell? ⟨w.heap.size + 1 + 1, 0, none⟩ = some (.slice none 0 0) := bo.cell 0
  have p1 : w1.cell? ⟨w.heap.size + 1 + 1, 1, none⟩ = some (.slice none 0 0) := bo.cell 1
  have p2 := bo.hot 0; have p3 := bo.hot 1
  have bo2 := (bo.set_ 0 (.slice B0 g.1.length d0)).set_ 1 (.slice B1 g.2.1.length d1)
  have bx2 := (bx.far (p := ⟨w.heap.size + 1 + 1, 0, none⟩) (by show w.heap.size ≠ w.heap.size + 1 + 1; omega) (.slice B0 g.1.length d0)).far (p := ⟨w.heap.size + 1 + 1, 1, none⟩) (by show w.heap.size ≠ w.heap.size + 1 + 1; omega) (.slice B1 g.2.1.length d1)
  have br2 := (br.far (p := ⟨w.heap.size + 1 + 1, 0, none⟩) (by show w.heap.size + 1 ≠ w.heap.size + 1 + 1; omega) (.slice B0 g.1.length d0)).far (p := ⟨w.heap.size + 1 + 1, 1, none⟩) (by show w.heap.size + 1 ≠ w.heap.size + 1 + 1; omega) (.slice B1 g.2.1.length d1)
  have f2 := Far.set (Far.set f0 (p := ⟨w.heap.size + 1 + 1, 0, none⟩) (Or.inl (by show w.heap.size + 1 + 1 < _; omega)) (.slice B0 g.1.length d0)) (p := ⟨w.heap.size + 1 + 1, 1, none⟩) (Or.inl (by show w.heap.size + 1 + 1 < _; omega)) (.slice B1 g.2.1.length d1)
  have hw2 : Below w.heap.size w ((w1.setCell ⟨w.heap.size + 1 + 1, 0, none⟩ (.slice B0 g.1.length d0)).setCell ⟨w.heap.size + 1 + 1, 1, none⟩ (.slice B1 g.2.1.length d1)) := below_set (by show w.heap.size ≤ w.heap.size + 1 + 1; omega) (below_set (by show w.heap.size ≤ w.heap.size + 1 + 1; omega) hw1)
  have hz2 : w1.heap.size = ((w1.setCell ⟨w.heap.size + 1 + 1, 0, none⟩ (.slice B0 g.1.length d0)).setCell ⟨w.heap.size + 1 + 1, 1, none⟩ (.slice B1 g.2.1.length d1)).heap.size := by simp [World.setCell]
  have r2 : ((w1.setCell ⟨w.heap.size + 1 + 1, 0, none⟩ (.slice B0 g.1.length d0)).setCell ⟨w.heap.size + 1 + 1, 1, none⟩ (.slice B1 g.2.1.length d1)).cell? ⟨w.heap.size, 2, none⟩ = some (.slice A2 n2 c2) := bx2.cell 2
  clear bx br bo hba
  go_wp2_with fail
  generalize ((w1.setCell ⟨w.heap.size + 1 + 1, 0, none⟩ (.slice B0 g.1.length d0)).setCell ⟨w.heap.size + 1 + 1, 1, none⟩ (.slice B1 g.2.1.length d1)) = w2 at *
  have hz2' : w1.heap.size ≤ w2.heap.size := by omega
  clear hz2 r2
  refine (toInts _ _ _ _ _ _ (Nat.le_refl _) (hrp.keep (keeps_below hw2)) hn2).mono ?_; rintro e w3 ⟨v2, rfl, ho2, hb3⟩
  obtain ⟨B2, d2, rfl⟩ := ho2.form
  have hw3 := below_then hb3 hw2.size hw2
  replace br2 := br2.on hb3; replace bo2 := bo2.on hb3
  have f3 := f2.step hb3
  have hz3 := hb3.size
  have u0 : w3.cell? ⟨w.heap.size + 1 + 1, 2, none⟩ = some (.slice none 0 0) := bo2.cell 2
  have u1 := bo2.hot 2
  have bo4 : Box (w3.setCell ⟨w.heap.size + 1 + 1, 2, none⟩ (.slice B2 g.2.2.length d2)) (w.heap.size + 1 + 1) 54 #[.slice B0 g.1.length d0, .slice B1 g.2.1.length d1, .slice B2 g.2.2.length d2] := by
    have := bo2.set_ 2 (.slice B2 g.2.2.length d2)
    simpa using this
  have br4 := br2.far (p := ⟨w.heap.size + 1 + 1, 2, none⟩) (by show w.heap.size + 1 ≠ w.heap.size + 1 + 1; omega) (.slice B2 g.2.2.length d2)
  have x0 : (w3.setCell ⟨w.heap.size + 1 + 1, 2, none⟩ (.slice B2 g.2.2.length d2)).cell? ⟨w.heap.size + 1 + 1, 0, none⟩ = some (.slice B0 g.1.length d0) := bo4.cell 0
  have x1 : (w3.setCell ⟨w.heap.size + 1 + 1, 2, none⟩ (.slice B2 g.2.2.length d2)).cell? ⟨w.heap.size + 1 + 1, 1, none⟩ = some (.slice B1 g.2.1.length d1) := bo4.cell 1
  have x2 : (w3.setCell ⟨w.heap.size + 1 + 1, 2, none⟩ (.slice B2 g.2.2.length d2)).cell? ⟨w.heap.size + 1 + 1, 2, none⟩ = some (.slice B2 g.2.2.length d2) := bo4.cell 2
  have y0 : (w3.setCell ⟨w.heap.size + 1 + 1, 2, none⟩ (.slice B2 g.2.2.length d2)).cell? ⟨w.heap.size + 1, 0, none⟩ = some (.slice none 0 0) := br4.cell 0
  have y1 : (w3.setCell ⟨w.heap.size + 1 + 1, 2, none⟩ (.slice B2 g.2.2.length d2)).cell? ⟨w.heap.size + 1, 1, none⟩ = some (.slice none 0 0) := br4.cell 1
  have y2 : (w3.setCell ⟨w.heap.size + 1 + 1, 2, none⟩ (.slice B2 g.2.2.length d2)).cell? ⟨w.heap.size + 1, 2, none⟩ = some (.slice none 0 0) := br4.cell 2
  have y3 := br4.hot 0; have y4 := br4.hot 1; have y5 := br4.hot 2
  have ch := (Chg.one (w := w3) (w.heap.size + 1 + 1) 2 (.slice B2 g.2.2.length d2)).trans (Chg.set3 (w3.setCell ⟨w.heap.size + 1 + 1, 2, none⟩ (.slice B2 g.2.2.length d2)) (w.heap.size + 1) (.slice B0 g.1.length d0) (.slice B1 g.2.1.length d1) (.slice B2 g.2.2.length d2)) (U := fun b => w.heap.size ≤ b ∧ b < w.heap.size + 3) (fun b hb => by have hb' : b = w.heap.size + 1 + 1 := hb; omega) (fun b hb => by have hb' : b = w.heap.size + 1 := hb; omega)
  have t := br4.set3 (.slice B0 g.1.length d0) (.slice B1 g.2.1.length d1) (.slice B2 g.2.2.length d2)
  have t0 := t.cell 0; have t1 := t.cell 1; have t2 := t.cell 2
  simp only [List.getElem?_toArray, List.getElem?_cons_zero, List.getElem?_cons_succ] at t0 t1 t2
  have hwF := hw3.trans (ch.below (by omega) (fun b hb => hb.1))
  have hoF := ho2.chg ch (fun b hb hS => by have := (ho2.lt b hb).1; omega)
  have fF := f3.of_chg ch (fun b hb => .inl (by omega))
  have hlt2 := ho2.lt
  have hJ := OPar.join ho0 fF (hoF.more (lo' := w.heap.size) (by omega)) (by omega) (fun b hb => .inr (by have := (hlt2 b hb).1; omega))
  go_wp2
  exact bodyPost_ret (v := .agg #[.slice B0 g.1.length d0, .slice B1 g.2.1.length d1, .slice B2 g.2.2.length d2]) (by simp [results, Tryd.results33, go_sem, t0, t1, t2]) rfl ⟨_, _, _, rfl, hJ.more hB, hwF.mono hB⟩


set_option maxRecDepth 100000 in
set_option maxHeartbeats 800000 in
theorem specParityOk (s0 s1 s2 : Value) (g : ParD) (w : World) (B : Nat) (hB : B ≤ w.heap.size) (ha : RPv w s0 s1 s2 g) :
    Calls Tryd.prog 70 #[.agg #[s0, s1, s2]] w fun e w' => e = .returned (.bool (parB g)) ∧ Below B w w' := by
  obtain ⟨A0, n0, c0, A1, n1, c1, A2, n2, c2, rfl, rfl, rfl⟩ := ha.form
  have hr := ha.ri; have hrr := ha.rii; have hrp := ha.rp
  have b1 := hr.cap; have b2 := hr.top; have b3 := hrr.cap; have b4 := hrr.top; have b5 := hrp.cap; have b6 := hrp.top
  have HL := Lib.hid hr.len; have HM := Lib.hid hrr.len; have HP := Lib.hid hrp.len
  have hba : Below w.heap.size w (w.alloc (.cells #[.slice A0 n0 c0, .slice A1 n1 c1, .slice A2 n2 c2] 54)) := below_alloc (Nat.le_refl _) (Below.refl _ _)
  have bx := Box.new w 54 #[.slice A0 n0 c0, .slice A1 n1 c1, .slice A2 n2 c2]
  have q0 : (w.alloc (.cells #[.slice A0 n0 c0, .slice A1 n1 c1, .slice A2 n2 c2] 54)).cell? ⟨w.heap.size, 0, none⟩ = some (.slice A0 n0 c0) := bx.cell 0; have q1 : (w.alloc (.cells #[.slice A0 n0 c0, .slice A1 n1 c1, .slice A2 n2 c2] 54)).cell? ⟨w.heap.size, 1, none⟩ = some (.slice A1 n1 c1) := bx.cell 1; have q2 : (w.alloc (.cells #[.slice A0 n0 c0, .slice A1 n1 c1, .slice A2 n2 c2] 54)).cell? ⟨w.heap.size, 2, none⟩ = some (.slice A2 n2 c2) := bx.cell 2
  cases h1 : arB g.1 g.2.1 with
  | false =>
    have E := Lib.hid (parB_ar h1)
    have H1 := Lib.hid h1
    clear h1
    go_enter Tryd.func70, Tryd.ntmps70
    go_wp2_with fail
    refine (specArenaOk _ _ _ _ _ _ _ _ _ _ (Nat.le_refl _) (hr.keep (keeps_below hba)) (hrr.keep (keeps_below hba))).mono ?_; rintro e w1 ⟨rfl, hb1⟩
    rw [H1.out]
    go_wp2
    go_ret
    exact ⟨ret_b E.out.symm, (below_then hb1 hba.size hba).mono hB⟩
  | true =>
    have H1 := Lib.hid h1
    have hn0 := (fineAr_of h1).2.1
    rw [HL.out] at hn0
    clear h1
    by_cases hl : n2 = n0
    · have HE := Lib.hid hl
      have hd1 : ((n2 : Int) != (n0 : Int)) = false := by simp [hl]
      have hd2 : (n2 != n0) = false := by simp [hl]
      have hl2 : n2 ≤ 256 := by omega
      clear hl
      go_enter Tryd.func70, Tryd.ntmps70
      go_wp2_with fail
      refine (specArenaOk _ _ _ _ _ _ _ _ _ _ (Nat.le_refl _) (hr.keep (keeps_below hba)) (hrr.keep (keeps_below hba))).mono ?_; rintro e w1 ⟨rfl, hb1⟩
      rw [H1.out]
      have hw1 := below_then hb1 hba.size hba
      replace bx := bx.on hb1
      clear q0 q1 q2 hb1 hba
      have q0 : w1.cell? ⟨w.heap.size, 0, none⟩ = some (.slice A0 n0 c0) := bx.cell 0; have q1 : w1.cell? ⟨w.heap.size, 1, none⟩ = some (.slice A1 n1 c1) := bx.cell 1; have q2 : w1.cell? ⟨w.heap.size, 2, none⟩ = some (.slice A2 n2 c2) := bx.cell 2
      go_wp2
      go_loopw [3] (fun i wr => ∃ k : Nat, k ≤ n2 ∧ i = .int .i64 k ∧ (∀ j, j < k → 0 ≤ gi g.2.2 j ∧ gi g.2.2 j ≤ 40) ∧ Box wr w.heap.size 54 #[.slice A0 n0 c0, .slice A1 n1 c1, .slice A2 n2 c2] ∧ Below w.heap.size w wr) (fun i _ => n2 - (intOf i).toNat)
      case atStart => exact ⟨0, Nat.zero_le _, rfl, by omega, bx, hw1⟩
      case round =>
        obtain ⟨k, hk, rfl, hall, bxr, hbr⟩ := hrel
        have HA := Lib.hid hall
        clear hall q0 q1 q2 bx
        have q0 : wr.cell? ⟨w.heap.size, 0, none⟩ = some (.slice A0 n0 c0) := bxr.cell 0; have q1 : wr.cell? ⟨w.heap.size, 1, none⟩ = some (.slice A1 n1 c1) := bxr.cell 1; have q2 : wr.cell? ⟨w.heap.size, 2, none⟩ = some (.slice A2 n2 c2) := bxr.cell 2
        by_cases hlt : k < n2
        · obtain ⟨bb, ob, rfl, hc⟩ := (hrp.keep (keeps_below hbr)).at_ hlt
          have hki : (k : Int) < (n2 : Int) := by omega
          have hk0' : (0 : Int) ≤ (k : Int) := by omega
          cases hv : inR (gi g.2.2 k) 0 40 with
          | true =>
            have hkk : 0 ≤ gi g.2.2 k ∧ gi g.2.2 k ≤ 40 := of_decide_eq_true hv
            have HK := Lib.hid hkk
            have HV := Lib.hid hv
            clear hkk hv
            go_wp2_with fail
            refine (l1In _ _ _ _).mono ?_; rintro e wx ⟨rfl, qx, rfl⟩
            rw [HV.out]
            go_wp2
            go_roundw
            case rel => exact ⟨k + 1, by omega, by go_num, all_succ HA.out HK.out, bxr.drewN _, below_drewN hbr _⟩
            case measure => simp [intOf]; omega
          | false =>
            have E := Lib.hid (show parB g = false from parB_no fun h => by
              have := h.2 k (by rw [HP.out]; exact hlt)
              rw [show inR (gi g.2.2 k) 0 40 = true from decide_eq_true this] at hv; cases hv)
            have HV := Lib.hid hv
            clear hv
            go_wp2_with fail
            refine (l1In _ _ _ _).mono ?_; rintro e wx ⟨rfl, qx, rfl⟩
            rw [HV.out]
            go_wp2
            go_ret
            exact ⟨ret_b E.out.symm, (below_drewN hbr _).mono hB⟩
        · obtain rfl : k = n2 := by omega
          have E := Lib.hid (show parB g = true from parB_yes H1.out ⟨by rw [HP.out, HL.out]; exact HE.out, by rw [HP.out]; exact HA.out⟩)
          go_wp2
          go_ret
          exact ⟨ret_b E.out.symm, hbr.mono hB⟩
    · have E := Lib.hid (show parB g = false from parB_no fun h => hl (by rw [← HL.out, ← HP.out]; exact h.1))
      have hd1 : ((n2 : Int) != (n0 : Int)) = true := by simp; omega
      have hd2 : (n2 != n0) = true := by simp [hl]
      clear hl
      go_enter Tryd.func70, Tryd.ntmps70
      go_wp2_with fail
      refine (specArenaOk _ _ _ _ _ _ _ _ _ _ (Nat.le_refl _) (hr.keep (keeps_below hba)) (hrr.keep (keeps_below hba))).mono ?_; rintro e w1 ⟨rfl, hb1⟩
      rw [H1.out]
      have hw1 := below_then hb1 hba.size hba
      replace bx := bx.on hb1
      clear q0 q1 q2 hb1 hba
      have q0 : w1.cell? ⟨w.heap.size, 0, none⟩ = some (.slice A0 n0 c0) := bx.cell 0; have q1 : w1.cell? ⟨w.heap.size, 1, none⟩ = some (.slice A1 n1 c1) := bx.cell 1; have q2 : w1.cell? ⟨w.heap.size, 2, none⟩ = some (.slice A2 n2 c2) := bx.cell 2
      go_wp2
      go_ret
      exact ⟨ret_b E.out.symm, hw1.mono hB⟩


set_option maxRecDepth 100000 in
set_option maxHeartbeats 800000 in
theorem implParityOk (s0 s1 s2 : Value) (g : ParD) (w : World) (B : Nat) (hB : B ≤ w.heap.size) (ha : RPv w s0 s1 s2 g) :
    Calls Tryd.prog 73 #[.agg #[s0, s1, s2]] w fun e w' => e = .returned (.bool (parB g)) ∧ Below B w w' := by
  obtain ⟨A0, n0, c0, A1, n1, c1, A2, n2, c2, rfl, rfl, rfl⟩ := ha.form
  have hr := ha.ri; have hrr := ha.rii; have hrp := ha.rp
  have b1 := hr.cap; have b2 := hr.top; have b3 := hrr.cap; have b4 := hrr.top; have b5 := hrp.cap; have b6 := hrp.top
  have HL := Lib.hid hr.len; have HM := Lib.hid hrr.len; have HP := Lib.hid hrp.len
  have hba : Below w.heap.size w (w.alloc (.cells #[.slice A0 n0 c0, .slice A1 n1 c1, .slice A2 n2 c2] 54)) := below_alloc (Nat.le_refl _) (Below.refl _ _)
  have bx := Box.new w 54 #[.slice A0 n0 c0, .slice A1 n1 c1, .slice A2 n2 c2]
  have q0 : (w.alloc (.cells #[.slice A0 n0 c0, .slice A1 n1 c1, .slice A2 n2 c2] 54)).cell? ⟨w.heap.size, 0, none⟩ = some (.slice A0 n0 c0) := bx.cell 0; have q1 : (w.alloc (.cells #[.slice A0 n0 c0, .slice A1 n1 c1, .slice A2 n2 c2] 54)).cell? ⟨w.heap.size, 1, none⟩ = some (.slice A1 n1 c1) := bx.cell 1; have q2 : (w.alloc (.cells #[.slice A0 n0 c0, .slice A1 n1 c1, .slice A2 n2 c2] 54)).cell? ⟨w.heap.size, 2, none⟩ = some (.slice A2 n2 c2) := bx.cell 2
  cases h1 : arB g.1 g.2.1 with
  | false =>
    have E := Lib.hid (parB_ar h1)
    have H1 := Lib.hid h1
    clear h1
    go_enter Tryd.func73, Tryd.ntmps73
    go_wp2_with fail
    refine (implArenaOk _ _ _ _ _ _ _ _ _ _ (Nat.le_refl _) (hr.keep (keeps_below hba)) (hrr.keep (keeps_below hba))).mono ?_; rintro e w1 ⟨rfl, hb1⟩
    rw [H1.out]
    go_wp2
    go_ret
    exact ⟨ret_b E.out.symm, (below_then hb1 hba.size hba).mono hB⟩
  | true =>
    have H1 := Lib.hid h1
    have hn0 := (fineAr_of h1).2.1
    rw [HL.out] at hn0
    clear h1
    by_cases hl : n2 = n0
    · have HE := Lib.hid hl
      have hd1 : ((n2 : Int) != (n0 : Int)) = false := by simp [hl]
      have hd2 : (n2 != n0) = false := by simp [hl]
      have hl2 : n2 ≤ 256 := by omega
      clear hl
      go_enter Tryd.func73, Tryd.ntmps73
      go_wp2_with fail
      refine (implArenaOk _ _ _ _ _ _ _ _ _ _ (Nat.le_refl _) (hr.keep (keeps_below hba)) (hrr.keep (keeps_below hba))).mono ?_; rintro e w1 ⟨rfl, hb1⟩
      rw [H1.out]
      have hw1 := below_then hb1 hba.size hba
      replace bx := bx.on hb1
      clear q0 q1 q2 hb1 hba
      have q0 : w1.cell? ⟨w.heap.size, 0, none⟩ = some (.slice A0 n0 c0) := bx.cell 0; have q1 : w1.cell? ⟨w.heap.size, 1, none⟩ = some (.slice A1 n1 c1) := bx.cell 1; have q2 : w1.cell? ⟨w.heap.size, 2, none⟩ = some (.slice A2 n2 c2) := bx.cell 2
      go_wp2
      go_loopw [22] (fun i wr => ∃ k : Nat, k ≤ n2 ∧ i = .int .i64 k ∧ (∀ j, j < k → 0 ≤ gi g.2.2 j ∧ gi g.2.2 j ≤ 40) ∧ Box wr w.heap.size 54 #[.slice A0 n0 c0, .slice A1 n1 c1, .slice A2 n2 c2] ∧ Below w.heap.size w wr) (fun i _ => n2 - (intOf i).toNat)
      case atStart => exact ⟨0, Nat.zero_le _, rfl, by omega, bx, hw1⟩
      case round =>
        obtain ⟨k, hk, rfl, hall, bxr, hbr⟩ := hrel
        have HA := Lib.hid hall
        clear hall q0 q1 q2 bx
        have q0 : wr.cell? ⟨w.heap.size, 0, none⟩ = some (.slice A0 n0 c0) := bxr.cell 0; have q1 : wr.cell? ⟨w.heap.size, 1, none⟩ = some (.slice A1 n1 c1) := bxr.cell 1; have q2 : wr.cell? ⟨w.heap.size, 2, none⟩ = some (.slice A2 n2 c2) := bxr.cell 2
        by_cases hlt : k < n2
        · obtain ⟨bb, ob, rfl, hc⟩ := (hrp.keep (keeps_below hbr)).at_ hlt
          have hki : (k : Int) < (n2 : Int) := by omega
          have hk0' : (0 : Int) ≤ (k : Int) := by omega
          by_cases hkk : 0 ≤ gi g.2.2 k ∧ gi g.2.2 k ≤ 40
          · have HK := Lib.hid hkk
            have k1 := hkk.1; have k2 := hkk.2
            clear hkk
            go_wp2
            go_roundw
            case rel => exact ⟨k + 1, by omega, by go_num, all_succ HA.out HK.out, bxr, hbr⟩
            case measure => simp [intOf]; omega
          · have E := Lib.hid (show parB g = false from parB_no fun h => hkk (h.2 k (by rw [HP.out]; exact hlt)))
            by_cases hk0 : gi g.2.2 k < 0
            · clear hkk
              go_wp2
              go_ret
              exact ⟨ret_b E.out.symm, hbr.mono hB⟩
            · have hk1 : 40 < gi g.2.2 k := by omega
              have hk2 : 0 ≤ gi g.2.2 k := by omega
              clear hkk
              go_wp2
              go_ret
              exact ⟨ret_b E.out.symm, hbr.mono hB⟩
        · obtain rfl : k = n2 := by omega
          have E := Lib.hid (show parB g = true from parB_yes H1.out ⟨by rw [HP.out, HL.out]; exact HE.out, by rw [HP.out]; exact HA.out⟩)
          go_wp2
          go_ret
          exact ⟨ret_b E.out.symm, hbr.mono hB⟩
    · have E := Lib.hid (show parB g = false from parB_no fun h => hl (by rw [← HL.out, ← HP.out]; exact h.1))
      have hd1 : ((n2 : Int) != (n0 : Int)) = true := by simp; omega
      have hd2 : (n2 != n0) = true := by simp [hl]
      clear hl
      go_enter Tryd.func73, Tryd.ntmps73
      go_wp2_with fail
      refine (implArenaOk _ _ _ _ _ _ _ _ _ _ (Nat.le_refl _) (hr.keep (keeps_below hba)) (hrr.keep (keeps_below hba))).mono ?_; rintro e w1 ⟨rfl, hb1⟩
      rw [H1.out]
      have hw1 := below_then hb1 hba.size hba
      replace bx := bx.on hb1
      clear q0 q1 q2 hb1 hba
      have q0 : w1.cell? ⟨w.heap.size, 0, none⟩ = some (.slice A0 n0 c0) := bx.cell 0; have q1 : w1.cell? ⟨w.heap.size, 1, none⟩ = some (.slice A1 n1 c1) := bx.cell 1; have q2 : w1.cell? ⟨w.heap.size, 2, none⟩ = some (.slice A2 n2 c2) := bx.cell 2
      go_wp2
      go_ret
      exact ⟨ret_b E.out.symm, hw1.mono hB⟩

end Go.Proofs.YtkhkdnmpbfmmeaaDoor
