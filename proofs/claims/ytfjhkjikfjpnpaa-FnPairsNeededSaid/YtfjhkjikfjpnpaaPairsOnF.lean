/- PairsOn, spec and impl. -/
import Derived.Test.YtfjhkjikfjpnpaaPairs5
import Derived.Deep.RegionHeld3
import Derived.Deep.RegionLaw
namespace Go.Proofs.Ytfjhkjikfjpnpaa
open Go.RowKit

def pairOn (keep : List Int) (p : PairD) : PairD := (renL p.1 keep, renL p.2 keep)
def pairsOnUp (ps : List PairD) (keep : List Int) (k : Nat) : List PairD := (ps.take k).map (pairOn keep)
noncomputable def pairsOnR (ps : List PairD) (keep : List Int) : List PairD := if okPM ps keep = true then ps.map (pairOn keep) else []
theorem take_gp {ps : List PairD} {k : Nat} (h : k < ps.length) : ps.take (k + 1) = ps.take k ++ [gp ps k] := by
  rw [gp_get h, List.take_succ_eq_append_getElem h]
theorem pairsOn_succ {ps : List PairD} {keep : List Int} {k : Nat} (h : k < ps.length) : pairsOnUp ps keep (k + 1) = pairsOnUp ps keep k ++ [(renL (gp ps k).1 keep, renL (gp ps k).2 keep)] := by
  unfold pairsOnUp
  rw [take_gp h, List.map_append]
  rfl
theorem pairsOnR_tot (ps : List PairD) (keep : List Int) : totP (pairsOnR ps keep) ≤ 1048576 := by
  unfold pairsOnR
  split
  · rename_i h
    unfold okPM at h
    rw [Bool.and_eq_true] at h
    have h1 := (finePs_of h.1 (by omega) (by omega)).1
    have h2 := set_len h.2 (by omega)
    have key : ∀ qs : List PairD, ((qs.map (pairOn keep)).map szP).sum ≤ qs.length * (2 * keep.length) := by
      intro qs
      induction qs with
      | nil => simp
      | cons q r ih =>
        simp only [List.map_cons, List.sum_cons, List.length_cons]
        have a1 := ren_len q.1 keep keep.length
        have a2 := ren_len q.2 keep keep.length
        rw [Nat.succ_mul]
        unfold szP pairOn renL at *
        simp only at *
        omega
    have := key ps
    unfold totP
    have h4 : ps.length * (2 * keep.length) ≤ 4 * (2 * keep.length) := Nat.mul_le_mul_right _ h1
    omega
  · simp [totP]

theorem Box.d0P {w : World} {b : Nat} {t : TypeId} {x0 x1 : Value} (h : Box w b t #[x0, x1]) : w.cell? ⟨b, 0, none⟩ = some x0 := h.cell 0
theorem Box.d1P {w : World} {b : Nat} {t : TypeId} {x0 x1 : Value} (h : Box w b t #[x0, x1]) : w.cell? ⟨b, 1, none⟩ = some x1 := h.cell 1

end Go.Proofs.Ytfjhkjikfjpnpaa
