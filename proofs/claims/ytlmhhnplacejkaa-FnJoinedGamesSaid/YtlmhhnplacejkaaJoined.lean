/- JoinedGame: what it is; spec. -/
import Derived.Test.YtlmhhnplacejkaaCopyP
import Derived.Test.YtlmhhnplacejkaaGame2
import Derived.Test.YtlmhhnplacejkaaMore
import Derived.Test.YtlmhhnplacejkaaPlan
import Derived.Test.YtlmhhnplacejkaaAttr
import Derived.Test.YtlmhhnplacejkaaHand
import Derived.Test.YtlmhhnplacejkaaApp
import Derived.Deep.RegionHeld3
import Derived.StillTailTactics
namespace Go.Proofs.Ytlmhhnplacejkaa
open Go.RowKit

theorem twoH_0_18 {P : Program} {Q : Exit → Act → World → Prop} {md : Region.Mode} {S : World → Prop} {fuel : Nat} {listed : Array Bool} {a : Act} {w : World} {o0 o1 o2 o3 o4 o5 o6 o7 o8 o9 o10 o11 o12 o13 o14 o15 o16 o17 o18 : Oper} {r : List Oper} (hr : Region.ready md (List.toArray (o0 :: o1 :: o2 :: o3 :: o4 :: o5 :: o6 :: o7 :: o8 :: o9 :: o10 :: o11 :: o12 :: o13 :: o14 :: o15 :: o16 :: o17 :: o18 :: r)) listed = [0, 18])
    (h1 : ∀ K' : Act → World → Prop, Shut (∀ a w, S w → (S w → wpAnyH P md (List.toArray (o0 :: o1 :: o2 :: o3 :: o4 :: o5 :: o6 :: o7 :: o8 :: o9 :: o10 :: o11 :: o12 :: o13 :: o14 :: o15 :: o16 :: o17 :: o18 :: r)) Q S fuel (listed.setIfInBounds 0 true) a w) → K' a w) → if Region.wanted o0 (yielded (List.toArray (o0 :: o1 :: o2 :: o3 :: o4 :: o5 :: o6 :: o7 :: o8 :: o9 :: o10 :: o11 :: o12 :: o13 :: o14 :: o15 :: o16 :: o17 :: o18 :: r)) a.tmps) = true then Oper.wp P o0 a w K' Q else K' (a.put o0.dst undef) w) (h2 : ∀ K' : Act → World → Prop, Shut (∀ a w, S w → (S w → wpAnyH P md (List.toArray (o0 :: o1 :: o2 :: o3 :: o4 :: o5 :: o6 :: o7 :: o8 :: o9 :: o10 :: o11 :: o12 :: o13 :: o14 :: o15 :: o16 :: o17 :: o18 :: r)) Q S fuel (listed.setIfInBounds 18 true) a w) → K' a w) → if Region.wanted o18 (yielded (List.toArray (o0 :: o1 :: o2 :: o3 :: o4 :: o5 :: o6 :: o7 :: o8 :: o9 :: o10 :: o11 :: o12 :: o13 :: o14 :: o15 :: o16 :: o17 :: o18 :: r)) a.tmps) = true then Oper.wp P o18 a w K' Q else K' (a.put o18.dst undef) w) : wpAnyH P md (List.toArray (o0 :: o1 :: o2 :: o3 :: o4 :: o5 :: o6 :: o7 :: o8 :: o9 :: o10 :: o11 :: o12 :: o13 :: o14 :: o15 :: o16 :: o17 :: o18 :: r)) Q S (fuel + 1) listed a w :=
  wpAnyH_ready (rs := [0, 18]) hr (by simp) (AllReadyH.cons rfl h1 (AllReadyH.cons rfl h2 AllReadyH.nil))
def shift (d : Nat) (xs : List Int) : List Int := xs.map (· + (d : Int))
theorem shift_len (d : Nat) (xs : List Int) : (shift d xs).length = xs.length := by unfold shift; rw [List.length_map]
theorem shift_take {d : Nat} {xs : List Int} {k : Nat} (h : k < xs.length) : shift d (xs.take (k + 1)) = shift d (xs.take k) ++ [gi xs k + (d : Int)] := by
  unfold shift
  rw [take_gi h, List.map_append]
  rfl
def firstUp (g : ParD) (k : Nat) : ParD := (g.1.take k, g.2.1.take k, g.2.2.take k)
theorem firstUp_succ {g : ParD} {k : Nat} (h0 : k < g.1.length) (h1 : k < g.2.1.length) (h2 : k < g.2.2.length) : firstUp g (k + 1) = addV (firstUp g k) (gi g.1 k) (gi g.2.2 k) (gl g.2.1 k) := by
  unfold firstUp addV
  rw [take_gi h0, take_gl h1, take_gi h2]
theorem firstUp_small {g : ParD} {k : Nat} (h : k ≤ 256) : small (firstUp g k) := by
  unfold firstUp small
  refine ⟨?_, ?_, ?_⟩ <;> simp <;> omega
def joinUp (g h : ParD) (k : Nat) : ParD := (g.1 ++ h.1.take k, g.2.1 ++ (h.2.1.take k).map (shift g.2.2.length), g.2.2 ++ h.2.2.take k)
theorem joinUp_zero (g h : ParD) : joinUp g h 0 = g := by
  unfold joinUp
  simp
theorem joinUp_succ {g h : ParD} {k : Nat} (h0 : k < h.1.length) (h1 : k < h.2.1.length) (h2 : k < h.2.2.length) : joinUp g h (k + 1) = addV (joinUp g h k) (gi h.1 k) (gi h.2.2 k) (shift g.2.2.length (gl h.2.1 k)) := by
  unfold joinUp addV
  rw [take_gi h0, take_gl h1, take_gi h2]
  simp
noncomputable def okJoin (g h : ParD) : Bool := parB g && (parB h && decide (g.2.2.length + h.2.2.length ≤ 256))
noncomputable def joinG (g h : ParD) : ParD := if okJoin g h = true then joinUp g h h.2.2.length else ([], [], [])
theorem join_par {g h : ParD} (e : parB g = false) : okJoin g h = false := by unfold okJoin; rw [e]; rfl
theorem join_par2 {g h : ParD} (e : parB h = false) : okJoin g h = false := by unfold okJoin; rw [e, Bool.false_and, Bool.and_false]
theorem join_len {g h : ParD} (e : ¬ g.2.2.length + h.2.2.length ≤ 256) : okJoin g h = false := by unfold okJoin; rw [decide_eq_false e, Bool.and_false, Bool.and_false]
theorem join_yes {g h : ParD} (e : parB g = true) (e2 : parB h = true) (e3 : g.2.2.length + h.2.2.length ≤ 256) : okJoin g h = true := by unfold okJoin; rw [e, e2, decide_eq_true e3]; rfl
theorem joinG_no {g h : ParD} (e : okJoin g h = false) : joinG g h = ([], [], []) := by unfold joinG; rw [e]; rfl
theorem joinG_yes {g h : ParD} (e : okJoin g h = true) : joinG g h = joinUp g h h.2.2.length := if_pos e
theorem tot_append (xs ys : List (List Int)) : tot (xs ++ ys) = tot xs + tot ys := by unfold tot; rw [List.map_append, List.sum_append]
theorem tot_shift (d : Nat) (xs : List (List Int)) : tot (xs.map (shift d)) = tot xs := by
  unfold tot
  rw [List.map_map]
  congr 1
  apply List.map_congr_left
  intro x _
  exact shift_len d x
theorem joinUp_full {g h : ParD} (hf : finePar h) : joinUp g h h.2.2.length = (g.1 ++ h.1, g.2.1 ++ h.2.1.map (shift g.2.2.length), g.2.2 ++ h.2.2) := by
  have h1 := hf.1.2.2.1; have h2 := hf.2.1
  unfold joinUp
  rw [List.take_of_length_le (by omega), List.take_of_length_le (by omega), List.take_of_length_le (Nat.le_refl _)]
theorem join_tot (g h : ParD) : (ptot (joinG g h) : Int) ≤ 1048576 := by
  cases e : okJoin g h with
  | false => rw [joinG_no e]; simp [ptot, artot, tot]
  | true =>
    have e' := e
    unfold okJoin at e'
    rw [Bool.and_eq_true, Bool.and_eq_true] at e'
    have f1 := finePar_of e'.1; have f2 := finePar_of e'.2.1
    have t1 := fine_ptot f1; have t2 := fine_ptot f2
    rw [joinG_yes e, joinUp_full f2]
    unfold ptot artot at *
    simp only [List.length_append, tot_append, tot_shift]
    omega
theorem joinUp_small {g h : ParD} {k : Nat} (hg : finePar g) (hk : k ≤ 256) : small (joinUp g h k) := by
  have h0 := hg.1.2.1; have h1 := hg.1.2.2.1; have h2 := hg.2.1
  unfold joinUp small
  refine ⟨?_, ?_, ?_⟩ <;> simp <;> omega
theorem firstUp_full {g : ParD} (hf : finePar g) {k : Nat} (h : k = g.2.2.length) : firstUp g k = g := by
  have h1 := hf.1.2.2.1; have h2 := hf.2.1
  unfold firstUp
  rw [List.take_of_length_le (by omega), List.take_of_length_le (by omega), List.take_of_length_le (by omega)]

theorem GSx.start1 {w0 w : World} {br bg B : Nat} (hw : Below w0.heap.size w0 w) (hb : w0.heap.size ≤ br) (hz : Box w br 33 #[.slice none 0 0, .slice none 0 0, .slice none 0 0]) (e1 : bg = w.heap.size) (e2 : B = w.heap.size + 1) : GSx B w0 (w.alloc (.cells #[.slice none 0 0, .slice none 0 0, .slice none 0 0] 33)) br bg (.slice none 0 0) (.slice none 0 0) (.slice none 0 0) ([], [], []) := by
  subst e1; subst e2
  exact GSx.start hw hb hz

end Go.Proofs.Ytlmhhnplacejkaa
