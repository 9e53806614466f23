/- The contracts of sz, to, eq, mark, held at an answer, by its data. -/
import Derived.Test.YtkhkdnmpbfmmeaaDoorTwo
namespace Go.Proofs.YtkhkdnmpbfmmeaaDoor
open Go.RowKit
theorem szAnswerT (s0 s1 : Value) (z : TwoD) (l : Int) (w : World) (B : Nat) (hB : B ≤ w.heap.size) (ha : RTv w s0 s1 z) (h0 : 0 ≤ l) (h1 : l ≤ 1048576) :
    Calls Tryd.prog 12 #[.agg #[s0, s1], .int .i64 l] w fun e w' => e = .returned (.int .i64 (szF l (szT z : Nat))) ∧ Below B w w' := by
  obtain ⟨A0, n0, c0, A1, n1, c1, rfl, rfl⟩ := ha.form
  have r1 := ha.r1; have r2 := ha.r2
  have := r1.cap; have := r1.top; have := r2.cap; have := r2.top
  have h := szAnswer A0 A1 n0 c0 n1 c1 l w B hB h0 h1 (by omega) (by omega)
  unfold szT
  rw [r1.len, r2.len]
  exact h
theorem toAnswerT (s0 s1 : Value) (z : TwoD) (w : World) (B : Nat) (hB : B ≤ w.heap.size) (ha : RTv w s0 s1 z) (hn : szT z ≤ 1048576) :
    Calls Tryd.prog 14 #[.agg #[s0, s1]] w fun e w' => ∃ t0 t1, e = .returned (.agg #[t0, t1]) ∧ OT w' B t0 t1 z ∧ Below B w w' := by
  obtain ⟨A0, n0, c0, A1, n1, c1, rfl, rfl⟩ := ha.form
  have r1 := ha.r1; have r2 := ha.r2
  unfold szT at hn
  rw [r1.len, r2.len] at hn
  exact (toAnswer _ _ _ _ _ _ z.1 z.2 _ _ hB r1 r2 (by omega) (by omega)).mono fun e w' ⟨v, u, h1, h2, h3, h4, h5⟩ => ⟨v, u, h1, ⟨h2, h3, h4⟩, h5⟩
theorem eqAnswerT (s0 s1 t0 t1 : Value) (x y : TwoD) (w : World) (B : Nat) (hB : B ≤ w.heap.size) (hs : RTv w s0 s1 x) (ht : RTv w t0 t1 y) :
    Calls Tryd.prog 16 #[.agg #[s0, s1], .agg #[t0, t1]] w fun e w' => e = .returned (.bool (eqTT x y)) ∧ Below B w w' := by
  obtain ⟨A0, n0, c0, A1, n1, c1, rfl, rfl⟩ := hs.form
  obtain ⟨A2, n2, c2, A3, n3, c3, rfl, rfl⟩ := ht.form
  exact eqAnswer _ _ _ _ _ _ _ _ _ _ _ _ x.1 x.2 y.1 y.2 _ _ hB hs.r1 hs.r2 ht.r1 ht.r2
end Go.Proofs.YtkhkdnmpbfmmeaaDoor
