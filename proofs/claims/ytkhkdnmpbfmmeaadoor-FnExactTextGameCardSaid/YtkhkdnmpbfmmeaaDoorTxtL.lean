/- strings.Split, strings.Join: contracts. -/
import Derived.Test.YtkhkdnmpbfmmeaaDoorTxtC
namespace Go.Proofs.YtkhkdnmpbfmmeaaDoor
open Go.RowKit

/-- the library's own variable holds some number -/
def Max (w : World) : Prop := ∃ m, w.cell? ⟨1, 0, none⟩ = some (.int .i64 m)
theorem Max.keep {w w' : World} (h : Max w) (k : Keeps w w') : Max w' := by
  obtain ⟨m, hm⟩ := h
  exact ⟨m, k _ _ hm⟩

theorem stringsSplit (s : ByteArray) (c : UInt8) (w : World) (hm : Max w) (hs : s.size ≤ 4000000) :
    Calls Tryd.prog 59 #[.string s, .string ⟨#[c]⟩] w fun e w' => ∃ v, e = .returned v ∧ OS w' w.heap.size v (splT c s) ∧ Below w.heap.size w w' := by
  obtain ⟨m, hm⟩ := hm
  have hc := Any.strings_Split { Tryd.lSplit with } Tryd.lSplit.i9 s ⟨#[c]⟩ m w (by omega) hm (Nat.le_refl 1)
  change Calls Tryd.prog 59 _ _ _ at hc
  refine hc.mono ?_
  rintro e w' ⟨he, rfl⟩
  have hl := Lib.splitB_all ⟨#[c]⟩ (Nat.le_refl 1) 0 _ s rfl
  have hle := Lib.countB_le ⟨#[c]⟩ (Nat.le_refl 1) s.size s (Nat.le_refl _)
  rw [splitB_T] at hl ⊢
  refine ⟨_, he, ?_, below_alloc (Nat.le_refl _) (Below.refl _ _)⟩
  have := World.ownsRow_lit (e := 9) (base := w.heap.size) (size := 1) w ((splT c s).map Value.string).toArray (splT c s).length (Nat.le_refl _) (by unfold maxLen; omega) (by simp)
  rw [← hl]
  rw [List.toList_toArray] at this
  exact this

end Go.Proofs.YtkhkdnmpbfmmeaaDoor
