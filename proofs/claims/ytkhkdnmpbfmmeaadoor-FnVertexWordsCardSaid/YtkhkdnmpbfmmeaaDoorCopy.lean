/- Copies: append of a row to a slice of slices; l1Copy, copyLists, copyArena, l1CopyArena. copyArena. -/
import Derived.Test.YtkhkdnmpbfmmeaaDoorArenaL
import Derived.Test.YtkhkdnmpbfmmeaaDoorApp
import Derived.Deep.RegionHeld3
import Derived.Deep.RegionLaw
import Derived.Test.YtkhkdnmpbfmmeaaDoorMarks
namespace Go.Proofs.YtkhkdnmpbfmmeaaDoor
open Go.RowKit

theorem OArn.nil (w : World) (lo : Nat) : OArn w lo (.slice none 0 0) (.slice none 0 0) ([], []) :=
  ⟨[], ⟨OI.nil _ _ _, World.ownsRow_nil w lo 22 1, fun i hi => absurd hi (by simp)⟩, fun i j hi hj hne => by simp at hi hj; omega⟩
set_option maxRecDepth 100000 in
theorem l1Copy (A : Option Addr) (n c : Nat) (xs : List Int) (w : World) (B : Nat) (hB : B ≤ w.heap.size) (ha : RI w A n c xs) (hn : n ≤ 1048576) :
    Calls Tryd.prog 102 #[.slice A n c] w fun e w' => ∃ v, e = .returned v ∧ OI 2 w' B v xs ∧ Below B w w' := by
  have hba : Below w.heap.size w (w.alloc (.cells #[] 2)) := below_alloc (Nat.le_refl _) (Below.refl _ _)
  have hem := OI.empty (E := 2) (w := w) (B := w.heap.size) (Nat.le_refl _)
  go_enter Tryd.func102, Tryd.ntmps102
  go_wp2_with (refine wpList_appI rfl (.tmp 3) (.tmp 4) rfl _ w.heap.size _ [] rfl hem _ _ _ xs rfl (ha.keep (keeps_below hba)) (by simp) (by omega) (by simp) ?_; intro v1 w1 ho1 hb1 hc1 hat1)
  go_ret
  exact ⟨_, rfl, by simpa using ho1.more hB, (hba.trans hb1).mono hB⟩

end Go.Proofs.YtkhkdnmpbfmmeaaDoor
namespace Go.Proofs.YtkhkdnmpbfmmeaaDoor
open Go.RowKit

theorem OArn.join {wC wF : World} {lo loC : Nat} {v1 v2 : Value} {o : List Int} {n : List (List Int)} (h : OArn wC loC (.slice none 0 0) v2 ([], n)) (f : Far loC wC wF) (h1 : OI 2 wF lo v1 o) (hlo : lo ≤ loC) (hap : ∀ b, v1.ownBlock = some b → b < loC ∨ wC.heap.size ≤ b) : OArn wF lo v1 v2 (o, n) := by
  obtain ⟨cs, ⟨_, h3, h4⟩, hd⟩ := h
  have h4' := h4.hold f
  refine ⟨cs, ⟨h1, row_more (row_hold h3 f) hlo, h4'.more hlo⟩, Dis.cons hd.tail (fun i hi => ?_)⟩
  unfold Apart
  cases e : v1.ownBlock with
  | none => exact .inl rfl
  | some b =>
    right
    intro e2
    have := (h4.lt i hi b e2.symm)
    have := hap b e
    omega

theorem OArn.chg {S : Nat → Prop} {w w' : World} {lo : Nat} {s0 s1 : Value} {z : ArD} (h : OArn w lo s0 s1 z) (hc : Chg S w w') (hS : ∀ b, S b → b < lo) : OArn w' lo s0 s1 z := by
  obtain ⟨cs, h1, h2⟩ := h
  exact ⟨cs, h1.chg hc hS, h2⟩
end Go.Proofs.YtkhkdnmpbfmmeaaDoor
