/- The greatest set that is kept: sweeps till nothing turns. greatestSet, l15Stay, stayIn; StayWon. -/
import Derived.Test.YtkhkdnmpbfmmeaaDoorMarks
import Derived.Test.YtkhkdnmpbfmmeaaDoorApp
import Derived.Deep.LoopGhost
import Derived.Laws.AppendOwnNone
namespace Go.Proofs.YtkhkdnmpbfmmeaaDoor
open Go.RowKit

/-- one sweep over the first k: what is marked and not kept is unmarked at once -/
def sweep (kf : List Bool → Nat → Bool) (ms : List Bool) : Nat → List Bool
  | 0 => ms
  | k + 1 => if gb (sweep kf ms k) k && !kf (sweep kf ms k) k then (sweep kf ms k).set k false else sweep kf ms k
def sweeps (kf : List Bool → Nat → Bool) (m : Nat) (ms : List Bool) : Nat → List Bool
  | 0 => ms
  | t + 1 => sweep kf (sweeps kf m ms t) m
theorem sweep_len (kf : List Bool → Nat → Bool) (ms : List Bool) (k : Nat) : (sweep kf ms k).length = ms.length := by
  induction k with
  | zero => rfl
  | succ k ih => unfold sweep; split <;> simp [ih]
theorem sweeps_len (kf : List Bool → Nat → Bool) (m : Nat) (ms : List Bool) (t : Nat) : (sweeps kf m ms t).length = ms.length := by
  induction t with
  | zero => rfl
  | succ t ih => rw [sweeps, sweep_len, ih]
/-- the sweeps' end -/
def isGfp (kf : List Bool → Nat → Bool) (m : Nat) (ms r : List Bool) : Prop := ∃ t, r = sweeps kf m ms t ∧ sweep kf r m = r
theorem sweeps_fix {kf : List Bool → Nat → Bool} {m : Nat} {ms : List Bool} {t : Nat} (h : sweep kf (sweeps kf m ms t) m = sweeps kf m ms t) : ∀ d, sweeps kf m ms (t + d) = sweeps kf m ms t
  | 0 => rfl
  | d + 1 => by rw [← Nat.add_assoc, sweeps, sweeps_fix h d, h]
theorem isGfp.eq {kf : List Bool → Nat → Bool} {m : Nat} {ms r r' : List Bool} (h : isGfp kf m ms r) (h' : isGfp kf m ms r') : r = r' := by
  obtain ⟨t, rfl, hf⟩ := h
  obtain ⟨t', rfl, hf'⟩ := h'
  rcases Nat.le_total t t' with hl | hl
  · have := sweeps_fix hf (t' - t)
    rw [show t + (t' - t) = t' from by omega] at this
    exact this.symm
  · have := sweeps_fix hf' (t - t')
    rw [show t' + (t - t') = t from by omega] at this
    exact this
/-- the greatest set, by whatever it is that the sweeps end in -/
noncomputable def gfp (kf : List Bool → Nat → Bool) (m : Nat) (ms : List Bool) : List Bool := @Classical.epsilon _ ⟨ms⟩ (isGfp kf m ms)
theorem isGfp.is {kf : List Bool → Nat → Bool} {m : Nat} {ms r : List Bool} (h : isGfp kf m ms r) : r = gfp kf m ms := h.eq (@Classical.epsilon_spec _ (isGfp kf m ms) ⟨r, h⟩)
theorem isGfp.len {kf : List Bool → Nat → Bool} {m : Nat} {ms r : List Bool} (h : isGfp kf m ms r) : r.length = ms.length := by
  obtain ⟨t, rfl, _⟩ := h
  exact sweeps_len _ _ _ _
end Go.Proofs.YtkhkdnmpbfmmeaaDoor
