/- copyParity, topIn. -/
import Derived.Test.YtngadlpfheakiaaParL
import Derived.Test.YtngadlpfheakiaaCopy
namespace Go.Proofs.Ytngadlpfheakiaa
open Go.RowKit

set_option maxRecDepth 100000 in
set_option maxHeartbeats 1600000 in
theorem copyParity (s0 s1 s2 : Value) (g : ParD) (w : World) (B : Nat) (hB : B ≤ w.heap.size) (ha : RPv w s0 s1 s2 g) (hf : finePar g) :
    Calls Try.prog 52 #[.agg #[s0, s1, s2]] w fun e w' => ∃ t0 t1 t2, e = .returned (.agg #[t0, t1, t2]) ∧ OPar w' B t0 t1 t2 g ∧ Below B w w' := by
  have har := ha.1
  obtain ⟨A0, n0, c0, A1, n1, c1, A2, n2, c2, rfl, rfl, rfl⟩ := ha.form
  have hr := ha.ri; have hrr := ha.rii; have hrp := ha.rp
  have b1 := hr.cap; have b2 := hr.top; have b3 := hrr.cap; have b4 := hrr.top; have b5 := hrp.cap; have b6 := hrp.top
  have HL := Lib.hid hr.len; have HM := Lib.hid hrr.len; have HP := Lib.hid hrp.len
  have hn2 : n2 ≤ 1048576 := by have h1 := hf.1.2.1; have h2 := hf.2.1; rw [HP.out] at h2; omega
  have HF := Lib.hid hf.1
  clear hf
  have hwL : Below w.heap.size w ((w.alloc (.cells #[.slice A0 n0 c0, .slice A1 n1 c1, .slice A2 n2 c2] 32)).alloc (.cells #[.slice none 0 0, .slice none 0 0, .slice none 0 0] 32)) := below_alloc (Nat.le_refl _) (below_alloc (Nat.le_refl _) (Below.refl _ _))
  have bxL := (Box.new w 32 #[.slice A0 n0 c0, .slice A1 n1 c1, .slice A2 n2 c2]).alloc (.cells #[.slice none 0 0, .slice none 0 0, .slice none 0 0] 32)
  have brL : Box ((w.alloc (.cells #[.slice A0 n0 c0, .slice A1 n1 c1, .slice A2 n2 c2] 32)).alloc (.cells #[.slice none 0 0, .slice none 0 0, .slice none 0 0] 32)) (w.heap.size + 1) 32 #[.slice none 0 0, .slice none 0 0, .slice none 0 0] := Box.new' (by simp)
  have hsL : w.heap.size + 2 ≤ ((w.alloc (.cells #[.slice A0 n0 c0, .slice A1 n1 c1, .slice A2 n2 c2] 32)).alloc (.cells #[.slice none 0 0, .slice none 0 0, .slice none 0 0] 32)).heap.size := by simp
  have q0 : ((w.alloc (.cells #[.slice A0 n0 c0, .slice A1 n1 c1, .slice A2 n2 c2] 32)).alloc (.cells #[.slice none 0 0, .slice none 0 0, .slice none 0 0] 32)).cell? ⟨w.heap.size, 0, none⟩ = some (.slice A0 n0 c0) := bxL.cell 0; have q1 : ((w.alloc (.cells #[.slice A0 n0 c0, .slice A1 n1 c1, .slice A2 n2 c2] 32)).alloc (.cells #[.slice none 0 0, .slice none 0 0, .slice none 0 0] 32)).cell? ⟨w.heap.size, 1, none⟩ = some (.slice A1 n1 c1) := bxL.cell 1; have q2 : ((w.alloc (.cells #[.slice A0 n0 c0, .slice A1 n1 c1, .slice A2 n2 c2] 32)).alloc (.cells #[.slice none 0 0, .slice none 0 0, .slice none 0 0] 32)).cell? ⟨w.heap.size, 2, none⟩ = some (.slice A2 n2 c2) := bxL.cell 2
  go_enter Try.func52, Try.ntmps52
  go_wp2_with fail
  generalize ((w.alloc (.cells #[.slice A0 n0 c0, .slice A1 n1 c1, .slice A2 n2 c2] 32)).alloc (.cells #[.slice none 0 0, .slice none 0 0, .slice none 0 0] 32)) = W at *
  have hsW := hsL
  go_region_held3 (fun w' => w'.cell? ⟨w.heap.size, 0, none⟩ = some (.slice A0 n0 c0) ∧ w'.cell? ⟨w.heap.size, 1, none⟩ = some (.slice A1 n1 c1) ∧ w'.cell? ⟨w.heap.size, 2, none⟩ = some (.slice A2 n2 c2))
    (first | ((refine ⟨?_, ?_, ?_⟩ <;> repeat (first | with_reducible assumption | with_reducible refine keepD ?_ | with_reducible refine keepA ?_)); done) | ((refine ⟨?_, ?_, ?_⟩ <;> simp [World.cell?_setCell_other, q0, q1, q2]); done))
    (first
      | (refine step_of_list (by rfl) (wp_appI (.tmp 6) (.tmp 8) (by rfl) _ (w.heap.size + 2) _ [] (by rfl) (by first | exact (OI.empty hsW).drew | exact ((OI.empty hsW).drew).below hbC | exact OI.empty (by first | omega | (simp; omega))) _ _ _ g.2.2 (by rfl) (hrp.keep (keeps_below (by repeat (first | with_reducible exact hwL | with_reducible refine Below.drew ?_ | with_reducible refine below_alloc (Nat.le_refl _) ?_)))) (by simp) (by omega) (by first | omega | (simp; omega)) ?_)
         intro v1 w1 ho1 hb1 hc1 hat1
         try rw [List.nil_append] at ho1
         obtain ⟨Av, cv, rfl⟩ := ho1.form
         first
           | (have hc2 : Chg (fun b => b = wC.heap.size) _ w1 := hc1.mono (fun b hb => (Option.some.inj (show some wC.heap.size = some b from hb)).symm)
              have hat2 := fun b hb => (hat1 b hb).imp (fun h => (Option.some.inj (show some wC.heap.size = some b from h)).symm) id)
           | (have hc2 : Chg (fun b => b = W.heap.size) _ w1 := hc1.mono (fun b hb => (Option.some.inj (show some W.heap.size = some b from hb)).symm)
              have hat2 := fun b hb => (hat1 b hb).imp (fun h => (Option.some.inj (show some W.heap.size = some b from h)).symm) id)
         clear hc1 hat1
         replace bxL := Box.below (w' := w1) (b := w.heap.size) (t := 32) (cs := #[.slice A0 n0 c0, .slice A1 n1 c1, .slice A2 n2 c2]) (by repeat (first | with_reducible exact bxL | with_reducible refine Box.alloc ?_ _ | with_reducible refine Box.drew ?_)) hb1 (by first | omega | (simp; omega))
         replace hwL : Below w.heap.size w w1 := (show Below w.heap.size w _ by repeat (first | with_reducible exact hwL | with_reducible refine Below.drew ?_ | with_reducible refine below_alloc (Nat.le_refl _) ?_)).trans (hb1.mono (by omega))
         have hs1 := hb1.size
         replace hsL : w.heap.size + 2 ≤ w1.heap.size := by first | omega | (simp at hs1; omega)
         have hk1 := hsL
         replace brL := Box.below (w' := w1) (b := w.heap.size + 1) (t := 32) (cs := #[.slice none 0 0, .slice none 0 0, .slice none 0 0]) (by repeat (first | with_reducible exact brL | with_reducible refine Box.alloc ?_ _ | with_reducible refine Box.drew ?_)) hb1 (by first | omega | (simp; omega))
         have q0 : w1.cell? ⟨w.heap.size, 0, none⟩ = some (.slice A0 n0 c0) := bxL.cell 0
         have q1 : w1.cell? ⟨w.heap.size, 1, none⟩ = some (.slice A1 n1 c1) := bxL.cell 1
         have q2 : w1.cell? ⟨w.heap.size, 2, none⟩ = some (.slice A2 n2 c2) := bxL.cell 2
         have f0 := brL.hot 0
         have f1 := brL.hot 1
         have f2 := brL.hot 2
         have p0 : w1.cell? ⟨w.heap.size + 1, 0, none⟩ = some (.slice none 0 0) := brL.cell 0
         have p1 : w1.cell? ⟨w.heap.size + 1, 1, none⟩ = some (.slice none 0 0) := brL.cell 1
         have p2 : w1.cell? ⟨w.heap.size + 1, 2, none⟩ = some (.slice none 0 0) := brL.cell 2)
      | (go_at_call 102
         refine (copyArena _ _ (g.1, g.2.1) _ _ (Nat.le_refl _) (har.keep (keeps_below (by repeat (first | with_reducible exact hwL | with_reducible refine Below.drew ?_ | with_reducible refine below_alloc (Nat.le_refl _) ?_)))) HF.out).mono ?_
         rintro e wC ⟨t0, t1, rfl, hoC, hbC⟩
         obtain ⟨B0, d0, B1, d1, rfl, rfl⟩ := hoC.form
         replace hwL : Below w.heap.size w wC := below_then hbC (by first | omega | (simp; omega)) (by repeat (first | with_reducible exact hwL | with_reducible refine Below.drew ?_ | with_reducible refine below_alloc (Nat.le_refl _) ?_))
         replace bxL := Box.below (w' := wC) (b := w.heap.size) (t := 32) (cs := #[.slice A0 n0 c0, .slice A1 n1 c1, .slice A2 n2 c2]) (by repeat (first | with_reducible exact bxL | with_reducible refine Box.alloc ?_ _ | with_reducible refine Box.drew ?_)) hbC (by first | omega | (simp; omega))
         replace brL := Box.below (w' := wC) (b := w.heap.size + 1) (t := 32) (cs := #[.slice none 0 0, .slice none 0 0, .slice none 0 0]) (by repeat (first | with_reducible exact brL | with_reducible refine Box.alloc ?_ _ | with_reducible refine Box.drew ?_)) hbC (by first | omega | (simp; omega))
         have hsC := hbC.size
         replace hsL : w.heap.size + 2 ≤ wC.heap.size := by first | omega | (simp at hsC; omega)
         have q0 : wC.cell? ⟨w.heap.size, 0, none⟩ = some (.slice A0 n0 c0) := bxL.cell 0
         have q1 : wC.cell? ⟨w.heap.size, 1, none⟩ = some (.slice A1 n1 c1) := bxL.cell 1
         have q2 : wC.cell? ⟨w.heap.size, 2, none⟩ = some (.slice A2 n2 c2) := bxL.cell 2
         have f0 := brL.hot 0
         have f1 := brL.hot 1
         have f2 := brL.hot 2
         have p0 : wC.cell? ⟨w.heap.size + 1, 0, none⟩ = some (.slice none 0 0) := brL.cell 0
         have p1 : wC.cell? ⟨w.heap.size + 1, 1, none⟩ = some (.slice none 0 0) := brL.cell 1
         have p2 : wC.cell? ⟨w.heap.size + 1, 2, none⟩ = some (.slice none 0 0) := brL.cell 2))
  all_goals
    first
      | (have fo : OPar w1 (w.heap.size + 2) (.slice B0 g.1.length d0) (.slice B1 g.2.1.length d1) (.slice Av g.2.2.length cv) g := OPar.join hoC (((Far.refl _ wC).step (below_alloc (Nat.le_refl _) (Below.refl _ _))).of_chg hc2 (fun b hb => .inr (Nat.le_of_eq hb.symm))) ho1 hsW (fun b hb => .inr ((hat2 b hb).elim (fun h => Nat.le_of_eq h.symm) (fun h => Nat.le_trans (by simp) h)))
         have ch := Chg.set3 w1 (w.heap.size + 1) (.slice B0 g.1.length d0) (.slice B1 g.2.1.length d1) (.slice Av g.2.2.length cv)
         have bF := brL.set3 (.slice B0 g.1.length d0) (.slice B1 g.2.1.length d1) (.slice Av g.2.2.length cv)
         have R0 := bF.cell 0
         have R1 := bF.cell 1
         have R2 := bF.cell 2
         simp only [List.getElem?_toArray, List.getElem?_cons_zero, List.getElem?_cons_succ] at R0 R1 R2
         have hwF := hwL.trans (ch.below (by omega) (fun b hb => by have hb' : b = w.heap.size + 1 := hb; omega))
         have fin := fo.chg ch (fun b hb => by have hb' : b = w.heap.size + 1 := hb; omega)
         go_wp2
         exact bodyPost_ret (v := .agg #[.slice B0 g.1.length d0, .slice B1 g.2.1.length d1, .slice Av g.2.2.length cv]) (by simp [results, Try.results52, go_sem, R0, R1, R2]) rfl ⟨_, _, _, rfl, fin.more (by omega), hwF.mono hB⟩)
      | (have fo : OPar w1 (w.heap.size + 2) (.slice B0 g.1.length d0) (.slice B1 g.2.1.length d1) (.slice Av g.2.2.length cv) g := OPar.join hoC ((Far.refl _ wC).of_chg hc2 (fun b hb => .inl (Nat.lt_of_le_of_lt (Nat.le_of_eq hb) (by simp)))) ho1 (Nat.le_trans hsW (by simp)) (fun b hb => (hat2 b hb).imp (fun h => Nat.lt_of_le_of_lt (Nat.le_of_eq h) (by simp)) id)
         have ch := Chg.set3 w1 (w.heap.size + 1) (.slice B0 g.1.length d0) (.slice B1 g.2.1.length d1) (.slice Av g.2.2.length cv)
         have bF := brL.set3 (.slice B0 g.1.length d0) (.slice B1 g.2.1.length d1) (.slice Av g.2.2.length cv)
         have R0 := bF.cell 0
         have R1 := bF.cell 1
         have R2 := bF.cell 2
         simp only [List.getElem?_toArray, List.getElem?_cons_zero, List.getElem?_cons_succ] at R0 R1 R2
         have hwF := hwL.trans (ch.below (by omega) (fun b hb => by have hb' : b = w.heap.size + 1 := hb; omega))
         have fin := fo.chg ch (fun b hb => by have hb' : b = w.heap.size + 1 := hb; omega)
         go_wp2
         exact bodyPost_ret (v := .agg #[.slice B0 g.1.length d0, .slice B1 g.2.1.length d1, .slice Av g.2.2.length cv]) (by simp [results, Try.results52, go_sem, R0, R1, R2]) rfl ⟨_, _, _, rfl, fin.more (by omega), hwF.mono hB⟩)


/-- the greatest of the priorities of a set, -1 of none -/
def topUp (p : List Int) (inn : List Int) : Nat → Int
  | 0 => -1
  | k + 1 => if topUp p inn k < gi p (gi inn k).toNat then gi p (gi inn k).toNat else topUp p inn k
def topL (p : List Int) (inn : List Int) : Int := topUp p inn inn.length
theorem topUp_range {p inn : List Int} {n : Nat} (hp : ∀ i, i < p.length → 0 ≤ gi p i ∧ gi p i ≤ 40) (hs : setB inn p.length = true) : ∀ {k : Nat}, k ≤ inn.length → -1 ≤ topUp p inn k ∧ topUp p inn k ≤ 40
  | 0, _ => by simp [topUp]
  | k + 1, hk => by
    have h1 := topUp_range (n := n) hp hs (k := k) (by omega)
    have h2 := setB_true.1 hs k (by omega)
    have h3 := h2.1; have h4 := h2.2.1
    have h5 := hp (gi inn k).toNat (by omega)
    rw [topUp]
    split <;> omega
set_option maxRecDepth 100000 in
set_option maxHeartbeats 800000 in
theorem topIn (s0 s1 s2 : Value) (g : ParD) (C : Option Addr) (m d : Nat) (inn : List Int) (w : World) (B : Nat) (hB : B ≤ w.heap.size) (ha : RPv w s0 s1 s2 g) (hi : RI w C m d inn) (hf : finePar g) (hs : setB inn g.2.2.length = true) :
    Calls Try.prog 50 #[.agg #[s0, s1, s2], .slice C m d] w fun e w' => e = .returned (.int .i64 (topL g.2.2 inn)) ∧ Below B w w' := by
  obtain ⟨A0, n0, c0, A1, n1, c1, A2, n2, c2, rfl, rfl, rfl⟩ := ha.form
  have hr := ha.ri; have hrr := ha.rii; have hrp := ha.rp
  have b1 := hr.cap; have b2 := hr.top; have b3 := hrr.cap; have b4 := hrr.top; have b5 := hrp.cap; have b6 := hrp.top
  have HL := Lib.hid hr.len; have HM := Lib.hid hrr.len; have HP := Lib.hid hrp.len
  have hba : Below w.heap.size w (w.alloc (.cells #[.slice A0 n0 c0, .slice A1 n1 c1, .slice A2 n2 c2] 32)) := below_alloc (Nat.le_refl _) (Below.refl _ _)
  have bx := Box.new w 32 #[.slice A0 n0 c0, .slice A1 n1 c1, .slice A2 n2 c2]
  have k1 := hi.cap; have k2 := hi.top
  have HI := Lib.hid hi.len
  have hn2 : n2 ≤ 256 := by have h1 := hf.1.2.1; have h2 := hf.2.1; rw [HP.out] at h2; omega
  have HR := Lib.hid hf.2.2
  have HS := Lib.hid hs
  clear hf hs
  have q0 : (w.alloc (.cells #[.slice A0 n0 c0, .slice A1 n1 c1, .slice A2 n2 c2] 32)).cell? ⟨w.heap.size, 0, none⟩ = some (.slice A0 n0 c0) := bx.cell 0; have q1 : (w.alloc (.cells #[.slice A0 n0 c0, .slice A1 n1 c1, .slice A2 n2 c2] 32)).cell? ⟨w.heap.size, 1, none⟩ = some (.slice A1 n1 c1) := bx.cell 1; have q2 : (w.alloc (.cells #[.slice A0 n0 c0, .slice A1 n1 c1, .slice A2 n2 c2] 32)).cell? ⟨w.heap.size, 2, none⟩ = some (.slice A2 n2 c2) := bx.cell 2
  go_enter Try.func50, Try.ntmps50
  go_wp2
  go_loop [5, 10] (fun t i => ∃ k : Nat, k ≤ m ∧ i = .int .i64 k ∧ t = .int .i64 (topUp g.2.2 inn k)) (fun _ i => m - (intOf i).toNat)
  case atStart => exact ⟨0, Nat.zero_le _, rfl, rfl⟩
  case round =>
    obtain ⟨k, hk, rfl, rfl⟩ := hrel
    by_cases hlt : k < m
    · obtain ⟨bi, oi, rfl, hc⟩ := (hi.keep (keeps_below hba)).at_ hlt
      obtain ⟨u, hu, hun⟩ := set_nat HS.out (show k < inn.length by rw [HI.out]; exact hlt)
      rw [HP.out] at hun
      obtain ⟨bp, op, rfl, hcp⟩ := (hrp.keep (keeps_below hba)).at_ hun
      rw [hu] at hc
      have HX := Lib.hid (show topUp g.2.2 inn (k + 1) = if topUp g.2.2 inn k < gi g.2.2 u then gi g.2.2 u else topUp g.2.2 inn k by rw [topUp, hu]; rfl)
      have hki : (k : Int) < (m : Int) := by omega
      have hk0 : (0 : Int) ≤ (k : Int) := by omega
      have hui : (u : Int) < (n2 : Int) := by omega
      have hu0 : (0 : Int) ≤ (u : Int) := by omega
      clear hu
      go_wp2
      go_round
      case rel => exact ⟨k + 1, by omega, by go_num, by rw [HX.out]⟩
      case measure => simp [intOf]; omega
    · obtain rfl : k = m := by omega
      have HE := Lib.hid (show topUp g.2.2 inn k = topL g.2.2 inn by unfold topL; rw [HI.out])
      go_wp2
      go_ret
      exact ⟨ret_i HE.out, hba.mono hB⟩
end Go.Proofs.Ytngadlpfheakiaa
