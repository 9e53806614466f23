/- How a slice of bytes is opened; the laws' own size test. -/
import Derived.Test.YtkhkdnmpbfmmeaaDoorOpen
import Derived.Test.YtkhkdnmpbfmmeaaDoorDice
namespace Go.Proofs.YtkhkdnmpbfmmeaaDoor
open Go.RowKit Go.ChangeShapes Go.WideShapes Go.ChangeAt Go.Deep

theorem ry_of_trod {H : Type} {enc : TypeId × Value → H} {P : Program} {w : World} {base : Nat} {spare : Nat → Bool} {held : Bool} {t e : TypeId} {fuel : Nat} {c : Value} {y : DataW H × List MemPlace}
    (ht : P.underlying t = some (.slice e)) (he : P.underlying e = some (.int .u8)) (hc : P.cellsOf e = 1) (hsp : ∀ b, spare b = true)
    (h : DataW.trod enc P w base spare held fuel t [c] = some y) : ∃ A n k xs, c = .slice A n k ∧ RY w A n k xs := by
  rcases open_ints ht he hc h with ⟨hcs, _⟩ | ⟨x, l, k, zs, hcs, _, hl, hm, hz, _, hcell, hwz⟩
  · injection hcs with h1 _
    exact ⟨none, 0, 0, [], h1, RY.of_nil⟩
  · injection hcs with h1 _
    refine ⟨some x, l, k, zs.take l, h1, RY.of_cells hl hm (by rw [hz, hsp]; rfl) hcell fun z hz => ?_⟩
    have h := hwz z hz
    unfold Lit.wf at h
    rw [Bool.and_eq_true] at h
    have h2 := of_decide_eq_true h.1
    have h3 := of_decide_eq_true h.2
    have e1 : IntKind.u8.min = 0 := rfl
    have e2 : IntKind.u8.max = 255 := rfl
    omega

set_option maxRecDepth 100000 in
theorem big (A : Option Addr) (n c : Nat) (l : List Int) (w : World) (hy : RY w A n c l) :
    Calls Tryd.prog 42 #[.slice A n c] w fun e w' => e = .returned (.bool (decide (4096 < n))) ∧ Qt w w' := by
  have b1 := hy.cap; have b2 := hy.top
  by_cases hb : 4096 < n
  · have E := Lib.hid (show decide (4096 < n) = true from decide_eq_true hb)
    go_enter Tryd.func42, Tryd.ntmps42
    go_wp2
    go_ret
    exact ⟨ret_b (by rw [E.out]; exact decide_eq_true (by omega)), Qt.refl _⟩
  · have E := Lib.hid (show decide (4096 < n) = false from decide_eq_false hb)
    go_enter Tryd.func42, Tryd.ntmps42
    go_wp2
    go_ret
    exact ⟨ret_b (by rw [E.out]; exact decide_eq_false (by omega)), Qt.refl _⟩
end Go.Proofs.YtkhkdnmpbfmmeaaDoor
