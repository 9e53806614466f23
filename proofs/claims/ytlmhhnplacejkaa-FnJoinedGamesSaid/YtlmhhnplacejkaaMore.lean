/- l14More: a game with one more vertex; the order of the appends' parts is open. -/
import Derived.Test.YtlmhhnplacejkaaVertex
namespace Go.Proofs.Ytlmhhnplacejkaa
open Go.RowKit

theorem more_end (g : ParD) (ow pr : Int) (nx : List Int) (W w w3 w4 : World) (lo : Nat) (cs : List Value) (v s0 s1 s2 : Value) (hlo : lo ≤ W.heap.size) (hWs : W.heap.size ≤ w.heap.size)
    (bl3 : Below lo w w3) (ch3 : Chg (fun x => x = w.heap.size + 1) w3 w4)
    (P0 : OI 2 w3 lo s0 (g.1 ++ [ow])) (P1 : w3.ownsRow lo 27 1 s1 (g.2.1.length + 1) (cs ++ [v])) (P2 : OL 2 w3 lo (cs ++ [v]) (gl (g.2.1 ++ [nx]))) (P3 : OI 2 w3 lo s2 (g.2.2 ++ [pr]))
    (v0 : ∀ b, s0.ownBlock = some b → b ≠ w.heap.size + 1) (v1 : ∀ b, s1.ownBlock = some b → b ≠ w.heap.size + 1) (vc : ∀ i, i < (cs ++ [v]).length → ∀ b, (gv (cs ++ [v]) i).ownBlock = some b → b < w.heap.size) (v2 : ∀ b, s2.ownBlock = some b → b ≠ w.heap.size + 1)
    (dcs : Dis (cs ++ [v])) (D2 : ∀ i, i < (cs ++ [v]).length → Apart s2 (gv (cs ++ [v]) i)) (D20 : Apart s2 s0) (D0 : ∀ i, i < (cs ++ [v]).length → Apart s0 (gv (cs ++ [v]) i)) :
    OPar w4 lo s0 s1 s2 (addV g ow pr nx) ∧ Below lo w w4 := by
  refine ⟨⟨cs ++ [v], ⟨?_, ?_, ?_⟩, ?_, ?_⟩, ?_⟩
  · exact P0.chg ch3 (fun b hb e => v0 b hb e)
  · have := row_chg P1 ch3 (fun b hb e => v1 b hb e)
    simpa [addV] using this
  · exact fun i hi => (P2 i hi).chg ch3 (fun b hb e => by have := vc i hi b hb; omega)
  · exact P3.chg ch3 (fun b hb e => v2 b hb e)
  · refine Dis.cons (Dis.cons dcs D2) (fun i hi => ?_)
    rcases i with _ | i
    · rw [gv_cons_zero]
      exact D20.symm
    · rw [gv_cons_succ]
      exact D0 i (by simpa using hi)
  · exact bl3.trans (ch3.below (by have := bl3.size; omega) (fun b hb => by omega))

end Go.Proofs.Ytlmhhnplacejkaa
