/- markArena, markParity, heldArena, heldParity. -/
import Derived.Test.YtngadlpfheakiaaPar
namespace Go.Proofs.Ytngadlpfheakiaa
open Go.RowKit

theorem Chg.alloc {S : Nat → Prop} {a w : World} (h : Chg S a w) (o : Obj) : Chg S a (w.alloc o) :=
  ⟨h.os, h.tape, h.output, by have := h.size; simp; omega, fun x hx hs => (Below.heap_alloc w o x (Nat.lt_of_lt_of_le hx h.size)).trans (h.block x hx hs)⟩
theorem gv_cons_succ (v : Value) (cs : List Value) (i : Nat) : gv (v :: cs) (i + 1) = gv cs i := by simp [gv]
theorem gv_cons_zero (v : Value) (cs : List Value) : gv (v :: cs) 0 = v := rfl
theorem Dis.tail {v : Value} {cs : List Value} (h : Dis (v :: cs)) : Dis cs := fun i j hi hj hne => by
  have := h (i + 1) (j + 1) (by simpa using hi) (by simpa using hj) (by omega)
  rwa [gv_cons_succ, gv_cons_succ] at this
theorem Dis.head {v : Value} {cs : List Value} (h : Dis (v :: cs)) {i : Nat} (hi : i < cs.length) : Apart v (gv cs i) := by
  have := h 0 (i + 1) (by simp) (by simpa using hi) (by omega)
  rwa [gv_cons_succ, gv_cons_zero] at this
theorem Dis.cons {v : Value} {cs : List Value} (h : Dis cs) (hv : ∀ i, i < cs.length → Apart v (gv cs i)) : Dis (v :: cs) := by
  intro i j hi hj hne
  rcases i with _ | i
  · rcases j with _ | j
    · exact absurd rfl hne
    · rw [gv_cons_succ, gv_cons_zero]; exact hv j (by simpa using hj)
  · rcases j with _ | j
    · rw [gv_cons_succ, gv_cons_zero]; exact (hv i (by simpa using hi)).symm
    · rw [gv_cons_succ, gv_cons_succ]; exact h i j (by simpa using hi) (by simpa using hj) (by omega)
theorem Dis.skip {u v : Value} {cs : List Value} (h : Dis (u :: v :: cs)) : Dis (u :: cs) := h.tail.tail.cons fun i hi => by
  have := h 0 (i + 2) (by simp) (by simpa using hi) (by omega)
  rwa [show i + 2 = (i + 1) + 1 from rfl, gv_cons_succ, gv_cons_succ, gv_cons_zero] at this
theorem apart_not {u v : Value} (h : Apart u v) {b : Nat} (hu : u.ownBlock = some b) : v.ownBlock ≠ some b := by
  intro hv
  rcases h with h | h
  · rw [h] at hu; cases hu
  · exact h (hu.trans hv.symm)

def artot (o : List Int) (n : List (List Int)) : Nat := o.length + tot n

set_option maxHeartbeats 400000 in
theorem markArena (s0 s1 : Value) (cs : List Value) (o : List Int) (n : List (List Int)) (k : Int) (w : World) (lo : Nat) (hlo : lo ≤ w.heap.size) (ho : OAr w lo s0 s1 cs o n) (hd : Dis (s0 :: cs)) (hk0 : 0 ≤ k) (hk1 : k + artot o n ≤ 4611686018427387904) :
    Calls Try.prog 38 #[.agg #[s0, s1], .int .i64 k] w fun e w' => e = .returned (.int .i64 (k + artot o n)) ∧ OAr w' lo s0 s1 cs (upto k o.length) (mkL (k + o.length) n) ∧ Chg (fun b => s0.ownBlock = some b ∨ InL cs b) w w' := by
  obtain ⟨h0, h1, h2⟩ := ho
  obtain ⟨A0, c0, rfl⟩ := h0.form
  obtain ⟨A1, c1, rfl, _⟩ := row_form h1
  unfold artot at *
  have hbw : Below w.heap.size w (w.alloc (.cells #[.slice A0 o.length c0, .slice A1 n.length c1] 30)) := below_alloc (Nat.le_refl _) (Below.refl _ _)
  have l1 : (w.alloc (.cells #[.slice A0 o.length c0, .slice A1 n.length c1] 30)).cell? ⟨w.heap.size, 1, none⟩ = some (.slice A1 n.length c1) := by simp [go_sem]
  have hlo0 := fun b => (h0.lt b)
  go_enter Try.func38, Try.ntmps38
  go_wp2_with fail
  refine (markInts _ _ _ _ _ _ _ (h0.below hbw) hk0 (by omega)).mono ?_; rintro e w1 ⟨rfl, ho1, hg1⟩
  have hc1 := Chg.of_grown hg1
  have hne : some w.heap.size ≠ (Value.slice A0 o.length c0).ownBlock := fun e => by have := (hlo0 _ e.symm).2; omega
  have l1' : w1.cell? ⟨w.heap.size, 1, none⟩ = some (.slice A1 n.length c1) := (World.cell?_of_block (hg1.block _ (by simp) (by exact hne))).trans l1
  have hr1 := row_chg (row_below h1 hbw) hc1 (fun b hb hs => own_ne (h0.below hbw) (row_below h1 hbw) (by decide) b hs hb)
  have ho2 : OL 2 w1 lo cs (gl n) := fun i hi => ((h2.below hbw) i hi).chg hc1 (fun b hb hs => apart_not (hd.head hi) hs hb)
  go_wp2_with fail
  refine (markGrid _ _ _ _ _ _ _ _ _ hr1 rfl ho2 hd.tail (by omega) (by omega)).mono ?_; rintro e w2 ⟨rfl, hr2, ho3, hc2⟩
  have ho1' := ho1.chg hc2 (fun b hb ⟨i, hi, hs⟩ => apart_not (hd.head hi) hb hs)
  go_wp2
  go_ret
  refine ⟨ret_i (by omega), ⟨?_, ?_, ?_⟩, ?_⟩
  · exact ho1'
  · rw [mkL_len]; exact hr2
  · exact ho3
  · exact (((Chg.refl _ w).alloc _).trans hc1 (fun _ h => h) (fun _ h => .inl h)).trans hc2 (fun _ h => h) (fun _ h => .inr h)

end Go.Proofs.Ytngadlpfheakiaa
