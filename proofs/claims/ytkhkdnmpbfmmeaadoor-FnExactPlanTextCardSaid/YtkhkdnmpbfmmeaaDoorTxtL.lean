/- strings.Split, strings.Join: contracts. -/
import Derived.Test.YtkhkdnmpbfmmeaaDoorTxtC
namespace Go.Proofs.YtkhkdnmpbfmmeaaDoor
open Go.RowKit

/-- the library's own variable holds some number -/
def Max (w : World) : Prop := ∃ m, w.cell? ⟨1, 0, none⟩ = some (.int .i64 m)
theorem Max.keep {w w' : World} (h : Max w) (k : Keeps w w') : Max w' := by
  obtain ⟨m, hm⟩ := h
  exact ⟨m, k _ _ hm⟩

theorem stringsJoin (A : Option Addr) (n c : Nat) (xs : List ByteArray) (sp : List UInt8) (w : World) (ha : RS w A n c xs) (hx : ∀ i, i < xs.length → (gt xs i).size ≤ 1000) (hsp : sp.length ≤ 10) (hn : n ≤ 1000) :
    Calls Tryd.prog 56 #[.slice A n c, .string (tx sp)] w fun e w' => e = .returned (.string (tx (jn xs sp))) ∧ Below w.heap.size w w' := by
  have hl := jn_len (sp := sp) hsp xs.length (Nat.le_refl _) hx
  rw [List.take_length] at hl
  obtain rfl := ha.len
  cases hxs : xs with
  | nil =>
    have hc := Any.strings_Join_none Tryd.lJoin Tryd.xJoin A c (tx sp) w
    change Calls Tryd.prog 56 _ _ _ at hc
    refine hc.mono ?_
    rintro e w' ⟨he, rfl⟩
    exact ⟨he, Below.refl _ _⟩
  | cons x r =>
    have h0 : 0 < xs.length := by rw [hxs]; simp
    obtain ⟨b, off, rfl, hb⟩ := ha.at_ h0
    have hbk : b < w.heap.size := by simpa using World.block_lt_of_cell? w _ hb
    have hc := Any.strings_Join Tryd.lJoin Tryd.xJoin b off c xs (tx sp) w (fun j y hj => by
      have hjl : j < xs.length := by
        rcases Nat.lt_or_ge j xs.length with h | h
        · exact h
        · rw [List.getElem?_eq_none h] at hj; cases hj
      obtain ⟨b', off', e, hcell⟩ := ha.at_ hjl
      injection e with e
      injection e with e1 e2
      subst e1; subst e2
      rw [hcell]
      rw [gt_some hjl] at hj
      injection hj with hj
      rw [hj]) hbk (by omega) ha.cap (by rw [tx_data]; show (jn xs sp).length ≤ _; omega)
    change Calls Tryd.prog 56 _ _ _ at hc
    rw [← hxs]
    refine hc.mono ?_
    rintro e w' ⟨he, hb⟩
    rw [tx_data] at he
    exact ⟨he, hb⟩
end Go.Proofs.YtkhkdnmpbfmmeaaDoor
