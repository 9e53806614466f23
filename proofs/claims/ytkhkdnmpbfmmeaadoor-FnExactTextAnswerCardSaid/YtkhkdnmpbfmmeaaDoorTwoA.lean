/- The contracts of sz, to, eq, mark, held at an answer, by its data. -/
import Derived.Test.YtkhkdnmpbfmmeaaDoorTwo
namespace Go.Proofs.YtkhkdnmpbfmmeaaDoor
open Go.RowKit
theorem eqAnswerT (s0 s1 t0 t1 : Value) (x y : TwoD) (w : World) (B : Nat) (hB : B ≤ w.heap.size) (hs : RTv w s0 s1 x) (ht : RTv w t0 t1 y) :
    Calls Tryd.prog 16 #[.agg #[s0, s1], .agg #[t0, t1]] w fun e w' => e = .returned (.bool (eqTT x y)) ∧ Below B w w' := by
  obtain ⟨A0, n0, c0, A1, n1, c1, rfl, rfl⟩ := hs.form
  obtain ⟨A2, n2, c2, A3, n3, c3, rfl, rfl⟩ := ht.form
  exact eqAnswer _ _ _ _ _ _ _ _ _ _ _ _ x.1 x.2 y.1 y.2 _ _ hB hs.r1 hs.r2 ht.r1 ht.r2
set_option maxRecDepth 100000 in
set_option maxHeartbeats 400000 in
theorem markAnswerU (s0 s1 : Value) (z : TwoD) (k : Int) (w : World) (lo : Nat) (wb : World) (hlo : lo ≤ wb.heap.size) (ho : OT wb lo s0 s1 z) (hb : Far lo wb w) (hk0 : 0 ≤ k) (hk1 : k + totT z ≤ 4611686018427387904) :
    Calls Tryd.prog 29 #[.agg #[s0, s1], .int .i64 k] w fun e w' => e = .returned (.int .i64 (k + totT z)) ∧ OT w' lo s0 s1 (upto k z.1.length, upto (k + z.1.length) z.2.length) ∧ Chg (fun b => lo ≤ b ∧ b < wb.heap.size) w w' := by
  obtain ⟨A0, c0, A1, c1, rfl, rfl⟩ := ho.form
  have hbs := hb.size
  have hba : Below w.heap.size w (w.alloc (.cells #[.slice A0 z.1.length c0, .slice A1 z.2.length c1] 27)) := below_alloc (Nat.le_refl _) (Below.refl _ _)
  have hbw := hb.step hba
  have bx := Box.new w 27 #[.slice A0 z.1.length c0, .slice A1 z.2.length c1]
  have q0 : (w.alloc (.cells #[.slice A0 z.1.length c0, .slice A1 z.2.length c1] 27)).cell? ⟨w.heap.size, 0, none⟩ = some (.slice A0 z.1.length c0) := bx.cell 0
  have q1 : (w.alloc (.cells #[.slice A0 z.1.length c0, .slice A1 z.2.length c1] 27)).cell? ⟨w.heap.size, 1, none⟩ = some (.slice A1 z.2.length c1) := bx.cell 1
  have o1 := ho.1.hold hbw
  have o2 := ho.2.1.hold hbw
  have hap := ho.2.2
  have lt1 := ho.1.lt
  have lt2 := ho.2.1.lt
  unfold totT at *
  go_enter Tryd.func29, Tryd.ntmps29
  go_wp2_with fail
  refine (markInts _ _ _ _ _ _ _ o1 hk0 (by omega)).mono ?_; rintro e w1 ⟨rfl, p1, g1⟩
  have h1 := Chg.of_grown g1
  have bx1 := bx.chg h1 (fun hb => by have := (lt1 _ hb).2; omega)
  have q10 : w1.cell? ⟨w.heap.size, 1, none⟩ = some (.slice A1 z.2.length c1) := bx1.cell 1
  have o2' := o2.chg h1 (fun b hb hs => apart_not hap hs hb)
  go_wp2_with fail
  refine (markInts _ _ _ _ _ _ _ o2' (by omega) (by omega)).mono ?_; rintro e w2 ⟨rfl, p2, g2⟩
  have h2 := Chg.of_grown g2
  have p1' := p1.chg h2 (fun b hb hs => apart_not hap hb hs)
  go_wp2
  go_ret
  refine ⟨ret_i (by omega), ⟨?_, ?_, hap⟩, ?_⟩
  · exact p1'
  · exact p2
  · exact (((Chg.refl (fun _ => False) w).alloc _).trans h1 (fun _ h => h.elim) (fun b hb => lt1 b hb)).trans h2 (fun _ h => h) (fun b hb => lt2 b hb)
set_option maxRecDepth 100000 in
set_option maxHeartbeats 400000 in
theorem heldAnswer (s0 s1 : Value) (z : TwoD) (k : Int) (w : World) (B : Nat) (hB : B ≤ w.heap.size) (ho : RTv w s0 s1 (upto k z.1.length, upto (k + z.1.length) z.2.length)) (hk0 : 0 ≤ k) (hk1 : k + totT z ≤ 4611686018427387904) :
    Calls Tryd.prog 30 #[.agg #[s0, s1], .int .i64 k] w fun e w' => e = .returned (.int .i64 (k + totT z)) ∧ Below B w w' := by
  obtain ⟨A0, n0, c0, A1, n1, c1, rfl, rfl⟩ := ho.form
  have r1 := ho.r1; have r2 := ho.r2
  have l1 := r1.len; have l2 := r2.len
  simp only [upto_len] at l1 l2
  subst l1; subst l2
  have hba : Below w.heap.size w (w.alloc (.cells #[.slice A0 z.1.length c0, .slice A1 z.2.length c1] 27)) := below_alloc (Nat.le_refl _) (Below.refl _ _)
  have bx := Box.new w 27 #[.slice A0 z.1.length c0, .slice A1 z.2.length c1]
  have q0 : (w.alloc (.cells #[.slice A0 z.1.length c0, .slice A1 z.2.length c1] 27)).cell? ⟨w.heap.size, 0, none⟩ = some (.slice A0 z.1.length c0) := bx.cell 0
  have q1 : (w.alloc (.cells #[.slice A0 z.1.length c0, .slice A1 z.2.length c1] 27)).cell? ⟨w.heap.size, 1, none⟩ = some (.slice A1 z.2.length c1) := bx.cell 1
  unfold totT at *
  go_enter Tryd.func30, Tryd.ntmps30
  go_wp2_with fail
  refine (heldInts _ _ _ k _ (r1.keep (keeps_below hba)) hk0 (by omega)).mono ?_; rintro e w1 ⟨rfl, hq1⟩
  have hb1 := below_qt hq1 hba
  have bx1 := bx.below (below_qt hq1 (Below.refl _ _)) bx.lt
  have q10 : w1.cell? ⟨w.heap.size, 1, none⟩ = some (.slice A1 z.2.length c1) := bx1.cell 1
  go_wp2_with fail
  refine (heldInts _ _ _ (k + z.1.length) _ (r2.keep (keeps_below hb1)) (by omega) (by omega)).mono ?_; rintro e w2 ⟨rfl, hq2⟩
  have hb2 := below_qt hq2 hb1
  go_wp2
  go_ret
  exact ⟨ret_i (by omega), hb2.mono hB⟩


end Go.Proofs.YtkhkdnmpbfmmeaaDoor
