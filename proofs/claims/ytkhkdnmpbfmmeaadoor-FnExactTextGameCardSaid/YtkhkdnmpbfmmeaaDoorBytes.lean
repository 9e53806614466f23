/- Rows of bytes of the call's own; append of a text. -/
import Derived.Test.YtkhkdnmpbfmmeaaDoorTxtL
import Derived.Test.YtkhkdnmpbfmmeaaDoorApp
import Derived.Lib.AppendStr
import Derived.Lib.BufferRead
namespace Go.Proofs.YtkhkdnmpbfmmeaaDoor
open Go.RowKit

/-- a row of bytes of the call's own -/
def OBy (w : World) (lo : Nat) (v : Value) (l : List UInt8) : Prop := w.ownsRow lo 5 1 v l.length (l.map fun b => Value.int .u8 b.toNat)
section
variable {w w' : World} {lo : Nat} {v : Value} {l : List UInt8}
theorem OBy.form (h : OBy w lo v l) : ∃ A c, v = .slice A l.length c := by
  rcases h.2 with ⟨rfl, hn⟩ | ⟨g, cap, cur, rfl, _⟩
  · exact ⟨none, 0, by rw [hn]⟩
  · exact ⟨_, _, rfl⟩
theorem OBy.below (h : OBy w lo v l) (hb : Below w.heap.size w w') : OBy w' lo v l := row_below h hb
theorem OBy.more {lo' : Nat} (h : OBy w lo v l) (hl : lo' ≤ lo) : OBy w lo' v l := row_more h hl
theorem OBy.lt (h : OBy w lo v l) : ∀ k, v.ownBlock = some k → lo ≤ k ∧ k < w.heap.size := World.ownsRow.lt h
theorem OBy.cap {A : Option Addr} {n c : Nat} (h : OBy w lo (.slice A n c) l) : n = l.length ∧ n ≤ c ∧ c ≤ 9223372036854775807 := by
  rcases h.2 with ⟨h1, hn⟩ | ⟨g, cap, cur, h1, _, _, h2, h3, _⟩
  · injection h1 with _ h2 h3; omega
  · injection h1 with _ h4 h5; unfold maxLen at h3; omega
end
theorem OBy.empty {w : World} {B : Nat} (hB : B ≤ w.heap.size) : OBy (w.alloc (.cells #[] 5)) B (.slice (some ⟨w.heap.size, 0, none⟩) 0 0) [] := World.ownsRow_lit w #[] 0 hB (by decide) rfl
end Go.Proofs.YtkhkdnmpbfmmeaaDoor
