/- PlacesLasso: l17Ats; spec and impl. -/
import Derived.Test.YtefjhkcafcchlaaTwo
import Derived.Test.YtefjhkcafcchlaaPlaces4
import Derived.Test.YtefjhkcafcchlaaApp
import Derived.Test.YtefjhkcafcchlaaAcc
import Derived.Deep.RegionLaw
namespace Go.Proofs.Ytefjhkcafcchlaa
open Go.RowKit

def atOk (ps : List PlaceD) (x : Int) : Bool := decide (0 ≤ x ∧ x < ps.length)
def atsOk (ps : List PlaceD) (xs : List Int) : Bool := decide (xs.length ≤ 256) && xs.all (atOk ps)
def atsUp (ps : List PlaceD) (xs : List Int) (k : Nat) : List Int := (xs.take k).map fun x => (gq ps x.toNat).1
def atsL (ps : List PlaceD) (xs : List Int) : List Int := if atsOk ps xs = true then atsUp ps xs xs.length else []
theorem atsUp_succ {ps : List PlaceD} {xs : List Int} {k : Nat} (h : k < xs.length) : atsUp ps xs (k + 1) = atsUp ps xs k ++ [(gq ps (gi xs k).toNat).1] := by
  unfold atsUp
  rw [take_gi h, List.map_append]; rfl
theorem atsUp_len (ps : List PlaceD) (xs : List Int) (k : Nat) : (atsUp ps xs k).length ≤ k := by
  unfold atsUp
  rw [List.length_map, List.length_take]
  omega
theorem atsOk_of {ps : List PlaceD} {xs : List Int} {n : Nat} (hl : xs.length = n) (h : n ≤ 256) (k : ∀ i, i < n → atOk ps (gi xs i) = true) : atsOk ps xs = true := by
  unfold atsOk
  rw [Bool.and_eq_true, List.all_eq_true]
  refine ⟨decide_eq_true (by omega), fun x hx => ?_⟩
  obtain ⟨i, hi, rfl⟩ := mem_gi hx
  exact k i (by omega)
theorem atsOk_long {ps : List PlaceD} {xs : List Int} {n : Nat} (hl : xs.length = n) (h : ¬ n ≤ 256) : atsOk ps xs = false := by
  unfold atsOk
  rw [decide_eq_false (by omega)]; rfl
theorem atsOk_no {ps : List PlaceD} {xs : List Int} {n i : Nat} (hl : xs.length = n) (hi : i < n) (h : atOk ps (gi xs i) = false) : atsOk ps xs = false := by
  cases e : atsOk ps xs with
  | false => rfl
  | true =>
    unfold atsOk at e
    rw [Bool.and_eq_true, List.all_eq_true] at e
    have := e.2 _ (gi_mem (xs := xs) (i := i) (by omega))
    rw [h] at this; cases this
def plOk (ps : List PlaceD) (z : TwoD) : Bool := decide (ps.length ≤ 256) && (atsOk ps z.1 && atsOk ps z.2)
def plR (ps : List PlaceD) (z : TwoD) : TwoD := if plOk ps z = true then (atsL ps z.1, atsL ps z.2) else ([], [])
theorem atsL_len (ps : List PlaceD) (xs : List Int) : (atsL ps xs).length ≤ 256 := by
  unfold atsL
  split
  · rename_i h
    unfold atsOk at h
    rw [Bool.and_eq_true] at h
    have := of_decide_eq_true h.1
    exact Nat.le_trans (atsUp_len _ _ _) this
  · simp
theorem plR_tot (ps : List PlaceD) (z : TwoD) : totT (plR ps z) ≤ 512 := by
  unfold plR totT
  split
  · have := atsL_len ps z.1
    have := atsL_len ps z.2
    dsimp only
    omega
  · simp

theorem Box.e0 {w : World} {b : Nat} {t : TypeId} {x0 x1 : Value} (h : Box w b t #[x0, x1]) : w.cell? ⟨b, 0, none⟩ = some x0 ∧ w.cell? ⟨b, 1, none⟩ = some x1 ∧ w.frozen? ⟨b, 0, none⟩ = false ∧ w.frozen? ⟨b, 1, none⟩ = false := ⟨h.cell 0, h.cell 1, h.hot 0, h.hot 1⟩
theorem Box.put2 {w : World} {b : Nat} {t : TypeId} {x0 x1 : Value} (h : Box w b t #[x0, x1]) (y0 y1 : Value) : Box ((w.setCell ⟨b, 0, none⟩ y0).setCell ⟨b, 1, none⟩ y1) b t #[y0, y1] := (h.set_ 0 y0).set_ 1 y1
theorem Chg.put2 (w : World) (b : Nat) (y0 y1 : Value) : Chg (fun x => x = b) w ((w.setCell ⟨b, 0, none⟩ y0).setCell ⟨b, 1, none⟩ y1) :=
  (Chg.set (w := w) ⟨b, 0, none⟩ y0).trans (Chg.set ⟨b, 1, none⟩ y1) (U := fun x => x = b) (fun _ h => h) (fun _ h => h)
theorem plR_no {ps : List PlaceD} {z : TwoD} (h : plOk ps z = false) : plR ps z = ([], []) := by unfold plR; rw [if_neg (by rw [h]; decide)]
theorem plR_yes {ps : List PlaceD} {z : TwoD} (h : plOk ps z = true) : plR ps z = (atsL ps z.1, atsL ps z.2) := if_pos h

end Go.Proofs.Ytefjhkcafcchlaa
