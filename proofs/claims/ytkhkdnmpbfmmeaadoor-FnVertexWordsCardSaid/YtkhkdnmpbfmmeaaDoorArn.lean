/- Arenas by dice: appends to an arena with a row beside it; w6Arena. -/
import Derived.Test.YtkhkdnmpbfmmeaaDoorDice
import Derived.Test.YtkhkdnmpbfmmeaaDoorCopy
import Derived.Test.YtkhkdnmpbfmmeaaDoorOftP
import Derived.Test.YtkhkdnmpbfmmeaaDoorPlan2
import Derived.Test.YtkhkdnmpbfmmeaaDoorHand
namespace Go.Proofs.YtkhkdnmpbfmmeaaDoor
open Go.RowKit

theorem twoH_1_3 {P : Program} {Q : Exit → Act → World → Prop} {md : Region.Mode} {S : World → Prop} {fuel : Nat} {listed : Array Bool} {a : Act} {w : World} {o0 o1 o2 o3 : Oper} {r : List Oper} (hr : Region.ready md (List.toArray (o0 :: o1 :: o2 :: o3 :: r)) listed = [1, 3])
    (h1 : ∀ K' : Act → World → Prop, Shut (∀ a w, S w → (S w → wpAnyH P md (List.toArray (o0 :: o1 :: o2 :: o3 :: r)) Q S fuel (listed.setIfInBounds 1 true) a w) → K' a w) → if Region.wanted o1 (yielded (List.toArray (o0 :: o1 :: o2 :: o3 :: r)) a.tmps) = true then Oper.wp P o1 a w K' Q else K' (a.put o1.dst undef) w) (h2 : ∀ K' : Act → World → Prop, Shut (∀ a w, S w → (S w → wpAnyH P md (List.toArray (o0 :: o1 :: o2 :: o3 :: r)) Q S fuel (listed.setIfInBounds 3 true) a w) → K' a w) → if Region.wanted o3 (yielded (List.toArray (o0 :: o1 :: o2 :: o3 :: r)) a.tmps) = true then Oper.wp P o3 a w K' Q else K' (a.put o3.dst undef) w) : wpAnyH P md (List.toArray (o0 :: o1 :: o2 :: o3 :: r)) Q S (fuel + 1) listed a w :=
  wpAnyH_ready (rs := [1, 3]) hr (by simp) (AllReadyH.cons rfl h1 (AllReadyH.cons rfl h2 AllReadyH.nil))
theorem twoH_1_4 {P : Program} {Q : Exit → Act → World → Prop} {md : Region.Mode} {S : World → Prop} {fuel : Nat} {listed : Array Bool} {a : Act} {w : World} {o0 o1 o2 o3 o4 : Oper} {r : List Oper} (hr : Region.ready md (List.toArray (o0 :: o1 :: o2 :: o3 :: o4 :: r)) listed = [1, 4])
    (h1 : ∀ K' : Act → World → Prop, Shut (∀ a w, S w → (S w → wpAnyH P md (List.toArray (o0 :: o1 :: o2 :: o3 :: o4 :: r)) Q S fuel (listed.setIfInBounds 1 true) a w) → K' a w) → if Region.wanted o1 (yielded (List.toArray (o0 :: o1 :: o2 :: o3 :: o4 :: r)) a.tmps) = true then Oper.wp P o1 a w K' Q else K' (a.put o1.dst undef) w) (h2 : ∀ K' : Act → World → Prop, Shut (∀ a w, S w → (S w → wpAnyH P md (List.toArray (o0 :: o1 :: o2 :: o3 :: o4 :: r)) Q S fuel (listed.setIfInBounds 4 true) a w) → K' a w) → if Region.wanted o4 (yielded (List.toArray (o0 :: o1 :: o2 :: o3 :: o4 :: r)) a.tmps) = true then Oper.wp P o4 a w K' Q else K' (a.put o4.dst undef) w) : wpAnyH P md (List.toArray (o0 :: o1 :: o2 :: o3 :: o4 :: r)) Q S (fuel + 1) listed a w :=
  wpAnyH_ready (rs := [1, 4]) hr (by simp) (AllReadyH.cons rfl h1 (AllReadyH.cons rfl h2 AllReadyH.nil))
theorem apart_grow2 {u v x : Value} {H : Nat} (h : Apart u x) (hat : ∀ b, v.ownBlock = some b → u.ownBlock = some b ∨ H ≤ b) (hx : ∀ b, x.ownBlock = some b → b < H) : Apart v x := by
  unfold Apart
  cases e : v.ownBlock with
  | none => exact .inl rfl
  | some b =>
    right
    intro e2
    rcases hat b e with h1 | h1
    · exact apart_not h h1 e2.symm
    · have := hx b e2.symm; omega
theorem OPar.put0 {w w' : World} {lo : Nat} {s0 s1 u t0 : Value} {g : ParD} {xs : List Int} (h : OPar w lo s0 s1 u g) (hc : Chg (fun b => s0.ownBlock = some b) w w') (h0 : OI 2 w' lo t0 xs)
    (hat : ∀ b, t0.ownBlock = some b → s0.ownBlock = some b ∨ w.heap.size ≤ b) : OPar w' lo t0 s1 u (xs, g.2.1, g.2.2) := by
  obtain ⟨cs, ⟨k0, k1, k2⟩, k3, hd⟩ := h
  have d0u : Apart s0 u := hd 0 1 (by simp) (by simp) (by omega)
  have d0c : ∀ i, i < cs.length → Apart s0 (gv cs i) := fun i hi => hd.skip.head hi
  refine ⟨cs, ⟨h0, row_chg k1 hc (fun b hb hs => own_ne k0 k1 (by decide) b hs hb), fun i hi => (k2 i hi).chg hc (fun b hb hs => apart_not (d0c i hi) hs hb)⟩, k3.chg hc (fun b hb hs => apart_not d0u hs hb), Dis.cons hd.tail fun i hi => ?_⟩
  cases i with
  | zero => exact apart_grow2 d0u hat (fun b hb => (k3.lt b hb).2)
  | succ j => exact apart_grow2 (d0c j (by simpa using hi)) hat (fun b hb => (k2.lt j (by simpa using hi) b hb).2)
/-- an arena by dice, as far as vertex k -/
def arUp (n : Int) (z : ArD) (k : Nat) : Prop := z.1.length = k ∧ z.2.length = k ∧ ∀ v, v < k → (0 ≤ gi z.1 v ∧ gi z.1 v ≤ 1) ∧ 1 ≤ (gl z.2 v).length ∧ setB (gl z.2 v) n = true
theorem arUp_zero (n : Int) : arUp n ([], []) 0 := ⟨rfl, rfl, fun v hv => absurd hv (by omega)⟩
theorem arUp_succ {n x : Int} {z : ArD} {k : Nat} {ys : List Int} (h : arUp n z k) (hx : 0 ≤ x ∧ x < 2) (hy : 1 ≤ ys.length) (hs : setB ys n = true) : arUp n (z.1 ++ [x], z.2 ++ [ys]) (k + 1) := by
  obtain ⟨h1, h2, h3⟩ := h
  refine ⟨by rw [List.length_append, h1]; rfl, by rw [List.length_append, h2]; rfl, fun v hv => ?_⟩
  by_cases e : v < k
  · show (0 ≤ gi (z.1 ++ [x]) v ∧ gi (z.1 ++ [x]) v ≤ 1) ∧ 1 ≤ (gl (z.2 ++ [ys]) v).length ∧ setB (gl (z.2 ++ [ys]) v) n = true
    rw [gi_app_lt (by omega)]
    rw [show gl (z.2 ++ [ys]) v = gl z.2 v by simp [gl, List.getElem?_append_left (show v < z.2.length by omega)]]
    exact h3 v e
  · obtain rfl : v = k := by omega
    show (0 ≤ gi (z.1 ++ [x]) v ∧ gi (z.1 ++ [x]) v ≤ 1) ∧ 1 ≤ (gl (z.2 ++ [ys]) v).length ∧ setB (gl (z.2 ++ [ys]) v) n = true
    rw [show gi (z.1 ++ [x]) v = x by rw [← h1]; exact gi_app_eq]
    rw [show gl (z.2 ++ [ys]) v = ys by rw [← h2]; simp [gl]]
    exact ⟨⟨hx.1, by omega⟩, hy, hs⟩
theorem set_short {xs : List Int} {n : Nat} (h : setB xs (n : Int) = true) : xs.length ≤ n := by have := set_len h (by omega); omega
theorem arUp_ok {n : Nat} {z : ArD} (h : arUp (n : Int) z n) (h1 : 1 ≤ n) (h2 : n ≤ 16) : arB z.1 z.2 = true := by
  obtain ⟨k1, k2, k3⟩ := h
  refine arB_of k1 ⟨h1, by omega, k2⟩ fun v hv => vOk_iff.2 ?_
  obtain ⟨m1, m2, m3⟩ := k3 v hv
  rw [k1]
  have := set_short m3
  exact ⟨m1, ⟨m2, by omega⟩, m3⟩
theorem OB.chg {E : TypeId} {S : Nat → Prop} {w w' : World} {lo : Nat} {v : Value} {xs : List Bool} (h : OB E w lo v xs) (hc : Chg S w w') (hS : ∀ b, v.ownBlock = some b → ¬ S b) : OB E w' lo v xs := row_chg h hc hS
end Go.Proofs.YtkhkdnmpbfmmeaaDoor
