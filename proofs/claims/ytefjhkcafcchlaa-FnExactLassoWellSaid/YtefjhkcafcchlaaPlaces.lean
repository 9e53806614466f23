/- Slices of places: how they read; l16SameInts, slices.Equal, l17Find, slices.IndexFunc, placeIn, PlaceIn. -/
import Derived.Test.YtefjhkcafcchlaaFn4
namespace Go.Proofs.Ytefjhkcafcchlaa
open Go.RowKit

abbrev PlaceD := Int × List Int
def gq (ps : List PlaceD) (i : Nat) : PlaceD := ps.getD i (0, [])
theorem gq_get {xs : List PlaceD} {i : Nat} (h : i < xs.length) : gq xs i = xs[i] := by simp [gq, h]
theorem gq_ext {xs ys : List PlaceD} (hl : xs.length = ys.length) (h : ∀ j, j < xs.length → gq xs j = gq ys j) : xs = ys := by
  refine List.ext_getElem hl fun i a b => ?_
  have := h i a
  rwa [gq_get a, gq_get b] at this
/-- a slice of places that reads as a list -/
def RQS (w : World) (A : Option Addr) (n c : Nat) (ps : List PlaceD) : Prop :=
  ps.length = n ∧ (n ≤ c ∧ c ≤ 9223372036854775807) ∧ ∀ i, i < n → ∃ b off A2 n2 c2, A = some ⟨b, off, none⟩ ∧
    w.cell? ⟨b, off + i * 2, none⟩ = some (.int .i64 (gq ps i).1) ∧ w.cell? ⟨b, off + i * 2 + 1, none⟩ = some (.slice A2 n2 c2) ∧ RI w A2 n2 c2 (gq ps i).2
section
variable {w w' : World} {A : Option Addr} {n c : Nat} {ps : List PlaceD}
theorem RQS.len (h : RQS w A n c ps) : ps.length = n := h.1
theorem RQS.cap (h : RQS w A n c ps) : n ≤ c := h.2.1.1
theorem RQS.top (h : RQS w A n c ps) : c ≤ 9223372036854775807 := h.2.1.2
theorem RQS.at_ (h : RQS w A n c ps) {i : Nat} (hi : i < n) : ∃ b off A2 n2 c2, A = some ⟨b, off, none⟩ ∧
    w.cell? ⟨b, off + i * 2, none⟩ = some (.int .i64 (gq ps i).1) ∧ w.cell? ⟨b, off + i * 2 + 1, none⟩ = some (.slice A2 n2 c2) ∧ RI w A2 n2 c2 (gq ps i).2 := h.2.2 i hi
theorem RQS.keep (h : RQS w A n c ps) (k : Keeps w w') : RQS w' A n c ps :=
  ⟨h.1, h.2.1, fun i hi => by
    obtain ⟨b, off, A2, n2, c2, e, hc1, hc2, h2⟩ := h.2.2 i hi
    exact ⟨b, off, A2, n2, c2, e, k _ _ hc1, k _ _ hc2, h2.keep k⟩⟩
end
/-- is it the place sought? -/
def isAt (at_ : Int) (rc : List Int) (p : PlaceD) : Bool := (p.1 == at_) && eqL p.2 rc
def findQ (ps : List PlaceD) (at_ : Int) (rc : List Int) : Int := firstI (fun i => isAt at_ rc (gq ps i)) ps.length

def placeF (ps : List PlaceD) (x : Int) (xs : List Int) : Int := if 256 < ps.length then -1 else findQ ps x xs
end Go.Proofs.Ytefjhkcafcchlaa
