/- markArena, markParity, heldArena, heldParity. -/
import Derived.Test.YtkhkdnmpbfmmeaaDoorPar
namespace Go.Proofs.YtkhkdnmpbfmmeaaDoor
open Go.RowKit

theorem Chg.alloc {S : Nat → Prop} {a w : World} (h : Chg S a w) (o : Obj) : Chg S a (w.alloc o) :=
  ⟨h.os, h.tape, h.output, by have := h.size; simp; omega, fun x hx hs => (Below.heap_alloc w o x (Nat.lt_of_lt_of_le hx h.size)).trans (h.block x hx hs)⟩
theorem gv_cons_succ (v : Value) (cs : List Value) (i : Nat) : gv (v :: cs) (i + 1) = gv cs i := by simp [gv]
theorem gv_cons_zero (v : Value) (cs : List Value) : gv (v :: cs) 0 = v := rfl
theorem Dis.tail {v : Value} {cs : List Value} (h : Dis (v :: cs)) : Dis cs := fun i j hi hj hne => by
  have := h (i + 1) (j + 1) (by simpa using hi) (by simpa using hj) (by omega)
  rwa [gv_cons_succ, gv_cons_succ] at this
theorem Dis.head {v : Value} {cs : List Value} (h : Dis (v :: cs)) {i : Nat} (hi : i < cs.length) : Apart v (gv cs i) := by
  have := h 0 (i + 1) (by simp) (by simpa using hi) (by omega)
  rwa [gv_cons_succ, gv_cons_zero] at this
theorem Dis.cons {v : Value} {cs : List Value} (h : Dis cs) (hv : ∀ i, i < cs.length → Apart v (gv cs i)) : Dis (v :: cs) := by
  intro i j hi hj hne
  rcases i with _ | i
  · rcases j with _ | j
    · exact absurd rfl hne
    · rw [gv_cons_succ, gv_cons_zero]; exact hv j (by simpa using hj)
  · rcases j with _ | j
    · rw [gv_cons_succ, gv_cons_zero]; exact (hv i (by simpa using hi)).symm
    · rw [gv_cons_succ, gv_cons_succ]; exact h i j (by simpa using hi) (by simpa using hj) (by omega)
theorem Dis.skip {u v : Value} {cs : List Value} (h : Dis (u :: v :: cs)) : Dis (u :: cs) := h.tail.tail.cons fun i hi => by
  have := h 0 (i + 2) (by simp) (by simpa using hi) (by omega)
  rwa [show i + 2 = (i + 1) + 1 from rfl, gv_cons_succ, gv_cons_succ, gv_cons_zero] at this
theorem apart_not {u v : Value} (h : Apart u v) {b : Nat} (hu : u.ownBlock = some b) : v.ownBlock ≠ some b := by
  intro hv
  rcases h with h | h
  · rw [h] at hu; cases hu
  · exact h (hu.trans hv.symm)

def artot (o : List Int) (n : List (List Int)) : Nat := o.length + tot n

set_option maxHeartbeats 400000 in
theorem markArena (s0 s1 : Value) (cs : List Value) (o : List Int) (n : List (List Int)) (k : Int) (w : World) (lo : Nat) (hlo : lo ≤ w.heap.size) (ho : OAr w lo s0 s1 cs o n) (hd : Dis (s0 :: cs)) (hk0 : 0 ≤ k) (hk1 : k + artot o n ≤ 4611686018427387904) :
    Calls Tryd.prog 82 #[.agg #[s0, s1], .int .i64 k] w fun e w' => e = .returned (.int .i64 (k + artot o n)) ∧ OAr w' lo s0 s1 cs (upto k o.length) (mkL (k + o.length) n) ∧ Chg (fun b => s0.ownBlock = some b ∨ InL cs b) w w' := by
  obtain ⟨h0, h1, h2⟩ := ho
  obtain ⟨A0, c0, rfl⟩ := h0.form
  obtain ⟨A1, c1, rfl, _⟩ := row_form h1
  unfold artot at *
  have hbw : Below w.heap.size w (w.alloc (.cells #[.slice A0 o.length c0, .slice A1 n.length c1] 52)) := below_alloc (Nat.le_refl _) (Below.refl _ _)
  have l1 : (w.alloc (.cells #[.slice A0 o.length c0, .slice A1 n.length c1] 52)).cell? ⟨w.heap.size, 1, none⟩ = some (.slice A1 n.length c1) := by simp [go_sem]
  have hlo0 := fun b => (h0.lt b)
  go_enter Tryd.func82, Tryd.ntmps82
  go_wp2_with fail
  refine (markInts _ _ _ _ _ _ _ (h0.below hbw) hk0 (by omega)).mono ?_; rintro e w1 ⟨rfl, ho1, hg1⟩
  have hc1 := Chg.of_grown hg1
  have hne : some w.heap.size ≠ (Value.slice A0 o.length c0).ownBlock := fun e => by have := (hlo0 _ e.symm).2; omega
  have l1' : w1.cell? ⟨w.heap.size, 1, none⟩ = some (.slice A1 n.length c1) := (World.cell?_of_block (hg1.block _ (by simp) (by exact hne))).trans l1
  have hr1 := row_chg (row_below h1 hbw) hc1 (fun b hb hs => own_ne (h0.below hbw) (row_below h1 hbw) (by decide) b hs hb)
  have ho2 : OL 2 w1 lo cs (gl n) := fun i hi => ((h2.below hbw) i hi).chg hc1 (fun b hb hs => apart_not (hd.head hi) hs hb)
  go_wp2_with fail
  refine (markGrid _ _ _ _ _ _ _ _ _ hr1 rfl ho2 hd.tail (by omega) (by omega)).mono ?_; rintro e w2 ⟨rfl, hr2, ho3, hc2⟩
  have ho1' := ho1.chg hc2 (fun b hb ⟨i, hi, hs⟩ => apart_not (hd.head hi) hb hs)
  go_wp2
  go_ret
  refine ⟨ret_i (by omega), ⟨?_, ?_, ?_⟩, ?_⟩
  · exact ho1'
  · rw [mkL_len]; exact hr2
  · exact ho3
  · exact (((Chg.refl _ w).alloc _).trans hc1 (fun _ h => h) (fun _ h => .inl h)).trans hc2 (fun _ h => h) (fun _ h => .inr h)

/-- the game with its numbers run on from k -/
def pm (k : Int) (g : ParD) : ParD := (upto k g.1.length, mkL (k + g.1.length) g.2.1, upto (k + artot g.1 g.2.1) g.2.2.length)
def ptot (g : ParD) : Nat := artot g.1 g.2.1 + g.2.2.length

set_option maxHeartbeats 400000 in
theorem markParity (s0 s1 s2 : Value) (g : ParD) (k : Int) (w : World) (lo : Nat) (hlo : lo ≤ w.heap.size) (ho : OPar w lo s0 s1 s2 g) (hk0 : 0 ≤ k) (hk1 : k + ptot g ≤ 4611686018427387904) :
    Calls Tryd.prog 40 #[.agg #[s0, s1, s2], .int .i64 k] w fun e w' => e = .returned (.int .i64 (k + ptot g)) ∧ OPar w' lo s0 s1 s2 (pm k g) ∧ Below lo w w' := by
  have ho' := ho
  obtain ⟨A0, c0, A1, c1, A2, c2, rfl, rfl, rfl⟩ := ho'.form
  obtain ⟨cs, h1, h2, h3⟩ := ho
  unfold ptot at *
  have hbw : Below w.heap.size w (w.alloc (.cells #[.slice A0 g.1.length c0, .slice A1 g.2.1.length c1, .slice A2 g.2.2.length c2] 54)) := below_alloc (Nat.le_refl _) (Below.refl _ _)
  have l1 : (w.alloc (.cells #[.slice A0 g.1.length c0, .slice A1 g.2.1.length c1, .slice A2 g.2.2.length c2] 54)).cell? ⟨w.heap.size, 2, none⟩ = some (.slice A2 g.2.2.length c2) := by simp [go_sem]
  have hS : ∀ b, ((Value.slice A0 g.1.length c0).ownBlock = some b ∨ InL cs b) → lo ≤ b ∧ b < w.heap.size := by
    rintro b (hb | ⟨i, hi, hb⟩)
    · exact h1.1.lt b hb
    · exact h1.2.2.lt i hi b hb
  have h2' := h2.below hbw
  have hap : ∀ b, ((Value.slice A0 g.1.length c0).ownBlock = some b ∨ InL cs b) → ¬ (Value.slice A2 g.2.2.length c2).ownBlock = some b := by
    rintro b (hb | ⟨i, hi, hb⟩) hs
    · have := h3 0 1 (by simp) (by simp) (by omega)
      exact apart_not (u := .slice A0 g.1.length c0) (v := .slice A2 g.2.2.length c2) this hb hs
    · exact apart_not (h3.tail.head hi) hs hb
  go_enter Tryd.func40, Tryd.ntmps40
  go_wp2_with fail
  refine (markArena _ _ _ _ _ _ _ _ (by simp; omega) (h1.below hbw) h3.skip hk0 (by omega)).mono ?_; rintro e w1 ⟨rfl, ho1, hc1⟩
  have l1' : w1.cell? ⟨w.heap.size, 2, none⟩ = some (.slice A2 g.2.2.length c2) := (World.cell?_of_block (hc1.block _ (by simp) (fun hs => by have := (hS _ hs).2; simp at this))).trans l1
  have ho2 := h2'.chg hc1 (fun b hb hs => hap b hs hb)
  have hb1 := hc1.below (B := lo) (by simp; omega) (fun b hb => (hS b hb).1)
  go_wp2_with fail
  refine (markInts _ _ _ _ _ _ _ ho2 (by omega) (by omega)).mono ?_; rintro e w2 ⟨rfl, ho3, hg3⟩
  have hc3 := Chg.of_grown hg3
  have hr3 := row_chg ho1.2.1 hc3 (fun b hb hs => own_ne ho2 ho1.2.1 (by decide) b hs hb)
  have h03 := ho1.1.chg hc3 (fun b hb hs => hap b (.inl hb) hs)
  have hl3 : OL 2 w2 lo cs (gl (mkL (k + g.1.length) g.2.1)) := fun i hi => (ho1.2.2 i hi).chg hc3 (fun b hb hs => hap b (.inr ⟨i, hi, hb⟩) hs)
  go_wp2
  go_ret
  refine ⟨ret_i (by omega), ⟨cs, ⟨h03, hr3, hl3⟩, ho3, h3⟩, ?_⟩
  exact ((below_alloc hlo (Below.refl _ _)).trans hb1).trans (hc3.below (by have := hb1.size; simp at this; omega) (fun b hb => (ho2.lt b hb).1))

set_option maxHeartbeats 400000 in
theorem heldArena (s0 s1 : Value) (o : List Int) (n : List (List Int)) (k : Int) (w : World) (B : Nat) (hB : B ≤ w.heap.size) (ho : RAv w s0 s1 (upto k o.length) (mkL (k + o.length) n)) (hk0 : 0 ≤ k) (hk1 : k + artot o n ≤ 4611686018427387904) :
    Calls Tryd.prog 83 #[.agg #[s0, s1], .int .i64 k] w fun e w' => e = .returned (.int .i64 (k + artot o n)) ∧ Below B w w' := by
  obtain ⟨⟨A0, n0, c0, rfl, h0⟩, ⟨A1, n1, c1, rfl, h1⟩⟩ := ho
  unfold artot at *
  obtain rfl : n0 = o.length := by rw [← h0.len, upto_len]
  have hbw : Below w.heap.size w (w.alloc (.cells #[.slice A0 o.length c0, .slice A1 n1 c1] 52)) := below_alloc (Nat.le_refl _) (Below.refl _ _)
  have K := keeps_below hbw
  have hp : 0 ≤ k + o.length := by omega
  have hp2 : 0 ≤ k + o.length + tot n := by omega
  go_enter Tryd.func83, Tryd.ntmps83
  go_wp2_with fail
  refine (heldInts _ _ _ _ _ (h0.keep K) hk0 (by omega)).mono ?_; rintro e w1 ⟨rfl, q1, rfl⟩
  go_wp2_with fail
  refine (heldGrid _ _ _ _ _ _ ((h1.keep K).keep (Qt.keeps ⟨_, rfl⟩)) (by omega) (by omega)).mono ?_; rintro e w2 ⟨rfl, q2, rfl⟩
  go_wp2
  go_ret
  exact ⟨ret_i (by omega), below_drewN (hbw.mono hB) _⟩

set_option maxHeartbeats 400000 in
theorem heldParity (s0 s1 s2 : Value) (g : ParD) (k : Int) (w : World) (B : Nat) (hB : B ≤ w.heap.size) (ho : RPv w s0 s1 s2 (pm k g)) (hk0 : 0 ≤ k) (hk1 : k + ptot g ≤ 4611686018427387904) :
    Calls Tryd.prog 41 #[.agg #[s0, s1, s2], .int .i64 k] w fun e w' => e = .returned (.int .i64 (k + ptot g)) ∧ Below B w w' := by
  obtain ⟨ha, ⟨A2, n2, c2, rfl, h2⟩⟩ := ho
  have ha' := ha
  obtain ⟨⟨A0, n0, c0, rfl, h0⟩, ⟨A1, n1, c1, rfl, h1⟩⟩ := ha'
  unfold ptot at *
  obtain rfl : n2 = g.2.2.length := by rw [← h2.len]; exact upto_len _ _
  have hbw : Below w.heap.size w (w.alloc (.cells #[.slice A0 n0 c0, .slice A1 n1 c1, .slice A2 g.2.2.length c2] 54)) := below_alloc (Nat.le_refl _) (Below.refl _ _)
  have K := keeps_below hbw
  have l1 : (w.alloc (.cells #[.slice A0 n0 c0, .slice A1 n1 c1, .slice A2 g.2.2.length c2] 54)).cell? ⟨w.heap.size, 2, none⟩ = some (.slice A2 g.2.2.length c2) := by simp [go_sem]
  have hp : 0 ≤ k + artot g.1 g.2.1 := by omega
  have hp2 : 0 ≤ k + artot g.1 g.2.1 + g.2.2.length := by omega
  go_enter Tryd.func41, Tryd.ntmps41
  go_wp2_with fail
  refine (heldArena _ _ _ _ _ _ _ (Nat.le_refl _) (ha.keep K) hk0 (by omega)).mono ?_; rintro e w1 ⟨rfl, hb1⟩
  have l1' := keeps_below hb1 _ _ l1
  go_wp2_with fail
  refine (heldInts _ _ _ _ _ ((h2.keep K).keep (keeps_below hb1)) (by omega) (by omega)).mono ?_; rintro e w2 ⟨rfl, q2, rfl⟩
  go_wp2
  go_ret
  exact ⟨ret_i (by omega), below_drewN ((below_then hb1 hbw.size hbw).mono hB) _⟩
end Go.Proofs.YtkhkdnmpbfmmeaaDoor
