/- LassoOk, isLasso, metBy; LassoWell, spec and impl. -/
import Derived.Test.YtlmhhnplacejkaaTwo
import Derived.Test.YtlmhhnplacejkaaArena
import Derived.Test.YtlmhhnplacejkaaArenaL
import Derived.Test.YtlmhhnplacejkaaCopy
import Derived.Test.YtlmhhnplacejkaaBroken
import Derived.Test.YtlmhhnplacejkaaSearch
import Derived.Test.YtlmhhnplacejkaaSort
import Derived.Test.YtlmhhnplacejkaaHand
import Derived.Test.YtlmhhnplacejkaaHas
import Derived.Test.YtlmhhnplacejkaaAcc
import Derived.IntWalk
namespace Go.Proofs.Ytlmhhnplacejkaa
open Go.RowKit

theorem twoH_2_10 {P : Program} {Q : Exit → Act → World → Prop} {md : Region.Mode} {S : World → Prop} {fuel : Nat} {listed : Array Bool} {a : Act} {w : World} {o0 o1 o2 o3 o4 o5 o6 o7 o8 o9 o10 : Oper} {r : List Oper} (hr : Region.ready md (List.toArray (o0 :: o1 :: o2 :: o3 :: o4 :: o5 :: o6 :: o7 :: o8 :: o9 :: o10 :: r)) listed = [2, 10])
    (h1 : ∀ K' : Act → World → Prop, Shut (∀ a w, S w → (S w → wpAnyH P md (List.toArray (o0 :: o1 :: o2 :: o3 :: o4 :: o5 :: o6 :: o7 :: o8 :: o9 :: o10 :: r)) Q S fuel (listed.setIfInBounds 2 true) a w) → K' a w) → if Region.wanted o2 (yielded (List.toArray (o0 :: o1 :: o2 :: o3 :: o4 :: o5 :: o6 :: o7 :: o8 :: o9 :: o10 :: r)) a.tmps) = true then Oper.wp P o2 a w K' Q else K' (a.put o2.dst undef) w) (h2 : ∀ K' : Act → World → Prop, Shut (∀ a w, S w → (S w → wpAnyH P md (List.toArray (o0 :: o1 :: o2 :: o3 :: o4 :: o5 :: o6 :: o7 :: o8 :: o9 :: o10 :: r)) Q S fuel (listed.setIfInBounds 10 true) a w) → K' a w) → if Region.wanted o10 (yielded (List.toArray (o0 :: o1 :: o2 :: o3 :: o4 :: o5 :: o6 :: o7 :: o8 :: o9 :: o10 :: r)) a.tmps) = true then Oper.wp P o10 a w K' Q else K' (a.put o10.dst undef) w) : wpAnyH P md (List.toArray (o0 :: o1 :: o2 :: o3 :: o4 :: o5 :: o6 :: o7 :: o8 :: o9 :: o10 :: r)) Q S (fuel + 1) listed a w :=
  wpAnyH_ready (rs := [2, 10]) hr (by simp) (AllReadyH.cons rfl h1 (AllReadyH.cons rfl h2 AllReadyH.nil))
theorem twoH_5_10 {P : Program} {Q : Exit → Act → World → Prop} {md : Region.Mode} {S : World → Prop} {fuel : Nat} {listed : Array Bool} {a : Act} {w : World} {o0 o1 o2 o3 o4 o5 o6 o7 o8 o9 o10 : Oper} {r : List Oper} (hr : Region.ready md (List.toArray (o0 :: o1 :: o2 :: o3 :: o4 :: o5 :: o6 :: o7 :: o8 :: o9 :: o10 :: r)) listed = [5, 10])
    (h1 : ∀ K' : Act → World → Prop, Shut (∀ a w, S w → (S w → wpAnyH P md (List.toArray (o0 :: o1 :: o2 :: o3 :: o4 :: o5 :: o6 :: o7 :: o8 :: o9 :: o10 :: r)) Q S fuel (listed.setIfInBounds 5 true) a w) → K' a w) → if Region.wanted o5 (yielded (List.toArray (o0 :: o1 :: o2 :: o3 :: o4 :: o5 :: o6 :: o7 :: o8 :: o9 :: o10 :: r)) a.tmps) = true then Oper.wp P o5 a w K' Q else K' (a.put o5.dst undef) w) (h2 : ∀ K' : Act → World → Prop, Shut (∀ a w, S w → (S w → wpAnyH P md (List.toArray (o0 :: o1 :: o2 :: o3 :: o4 :: o5 :: o6 :: o7 :: o8 :: o9 :: o10 :: r)) Q S fuel (listed.setIfInBounds 10 true) a w) → K' a w) → if Region.wanted o10 (yielded (List.toArray (o0 :: o1 :: o2 :: o3 :: o4 :: o5 :: o6 :: o7 :: o8 :: o9 :: o10 :: r)) a.tmps) = true then Oper.wp P o10 a w K' Q else K' (a.put o10.dst undef) w) : wpAnyH P md (List.toArray (o0 :: o1 :: o2 :: o3 :: o4 :: o5 :: o6 :: o7 :: o8 :: o9 :: o10 :: r)) Q S (fuel + 1) listed a w :=
  wpAnyH_ready (rs := [5, 10]) hr (by simp) (AllReadyH.cons rfl h1 (AllReadyH.cons rfl h2 AllReadyH.nil))

/-- a lasso's vertices, the loop's first once more; what is asked of the one at i -/
def lasAll (z : TwoD) : List Int := (z.1 ++ z.2) ++ [gi z.2 0]
def lasAt (o : List Int) (n : List (List Int)) (l : List Int) (i : Nat) : Prop := (0 ≤ gi l i ∧ gi l i < (o.length : Int)) ∧ (0 < i → hasL (gl n (gi l (i - 1)).toNat) (gi l i) = true)
noncomputable def lasE (o : List Int) (n : List (List Int)) (z : TwoD) : Bool := decide (z.1.length ≤ 256 ∧ 1 ≤ z.2.length ∧ z.2.length ≤ 256) && @decide (∀ i, i < (lasAll z).length → lasAt o n (lasAll z) i) (Classical.propDecidable _)
noncomputable def lasB (o : List Int) (n : List (List Int)) (z : TwoD) : Bool := arB o n && lasE o n z
section
variable {o : List Int} {n : List (List Int)} {z : TwoD}
theorem lasE_len (h : ¬ (z.1.length ≤ 256 ∧ 1 ≤ z.2.length ∧ z.2.length ≤ 256)) : lasE o n z = false := by unfold lasE; rw [decide_eq_false h]; rfl
theorem lasE_no {i : Nat} (hi : i < (lasAll z).length) (h : ¬ lasAt o n (lasAll z) i) : lasE o n z = false := by
  unfold lasE
  rw [@decide_eq_false _ (Classical.propDecidable _) (fun c => h (c i hi)), Bool.and_false]
theorem lasE_yes (h : z.1.length ≤ 256 ∧ 1 ≤ z.2.length ∧ z.2.length ≤ 256) (h2 : ∀ i, i < (lasAll z).length → lasAt o n (lasAll z) i) : lasE o n z = true := by
  unfold lasE
  rw [decide_eq_true h, @decide_eq_true _ (Classical.propDecidable _) h2]; rfl
theorem lasB_no (h : arB o n = false) : lasB o n z = false := by unfold lasB; rw [h]; rfl
theorem lasB_eq (h : arB o n = true) : lasB o n z = lasE o n z := by unfold lasB; rw [h]; rfl
end
theorem broken_mem {ps : List PairD} {a b : List Int} (h : ∀ x, x ∈ a ↔ x ∈ b) : brokenL ps a = brokenL ps b := by
  have hm : ∀ c, meetB c a = meetB c b := fun c => decide_eq_decide.2 ⟨fun ⟨x, h1, h2⟩ => ⟨x, h1, (h x).1 h2⟩, fun ⟨x, h1, h2⟩ => ⟨x, h1, (h x).2 h2⟩⟩
  unfold brokenL brokenUp
  congr 1
  funext k
  unfold brokenAt
  rw [hm, hm]

def thereB (v : Int) (n : Nat) : Bool := decide (0 ≤ v ∧ v < (n : Int))
set_option maxRecDepth 100000 in
theorem l1ThereB (A0 A1 : Option Addr) (n0 c0 n1 c1 : Nat) (v : Int) (w : World) (B : Nat) (hB : B ≤ w.heap.size) (hn0 : n0 ≤ 256) :
    Calls Try.prog 73 #[.agg #[.slice A0 n0 c0, .slice A1 n1 c1], .int .i64 v] w fun e w' => e = .returned (.bool (thereB v n0)) ∧ Below B w w' := by
  have hba : Below w.heap.size w (w.alloc (.cells #[.slice A0 n0 c0, .slice A1 n1 c1] 30)) := below_alloc (Nat.le_refl _) (Below.refl _ _)
  have q0 := (Box.new w 30 #[.slice A0 n0 c0, .slice A1 n1 c1]).d0
  have EI := Lib.hid (show inR v 0 ((n0 : Int) - 1) = thereB v n0 from decide_eq_decide.2 (by omega))
  go_enter Try.func73, Try.ntmps73
  go_wp2_with fail
  refine (l1In _ _ _ _).mono ?_; rintro e w2 ⟨rfl, q2⟩
  rw [EI.out]
  go_wp2
  go_ret
  exact ⟨rfl, (below_then (below_qt q2 (Below.refl _ _)) hba.size hba).mono hB⟩
set_option maxRecDepth 100000 in
theorem hasVertex (A0 A1 : Option Addr) (n0 c0 n1 c1 : Nat) (v : Int) (w : World) (B : Nat) (hB : B ≤ w.heap.size) (hn0 : n0 ≤ 256) :
    Calls Try.prog 108 #[.agg #[.slice A0 n0 c0, .slice A1 n1 c1], .int .i64 v] w fun e w' => e = .returned (.bool (thereB v n0)) ∧ Below B w w' := by
  have hba : Below w.heap.size w (w.alloc (.cells #[.slice A0 n0 c0, .slice A1 n1 c1] 30)) := below_alloc (Nat.le_refl _) (Below.refl _ _)
  have q0 := (Box.new w 30 #[.slice A0 n0 c0, .slice A1 n1 c1]).d0
  have q1 := (Box.new w 30 #[.slice A0 n0 c0, .slice A1 n1 c1]).d1
  by_cases h0 : 0 ≤ v
  · by_cases h1 : v < (n0 : Int)
    · have E := Lib.hid (show thereB v n0 = true from decide_eq_true ⟨h0, h1⟩)
      go_enter Try.func108, Try.ntmps108
      go_wp2
      go_ret
      exact ⟨ret_b E.out.symm, by first | exact below_alloc (Nat.le_trans hB (by simp)) (hba.mono hB) | exact hba.mono hB⟩
    · have E := Lib.hid (show thereB v n0 = false from decide_eq_false fun h => h1 h.2)
      go_enter Try.func108, Try.ntmps108
      go_wp2
      go_ret
      exact ⟨ret_b E.out.symm, by first | exact below_alloc (Nat.le_trans hB (by simp)) (hba.mono hB) | exact hba.mono hB⟩
  · have E := Lib.hid (show thereB v n0 = false from decide_eq_false fun h => h0 h.1)
    go_enter Try.func108, Try.ntmps108
    go_wp2
    go_ret
    exact ⟨ret_b E.out.symm, by first | exact below_alloc (Nat.le_trans hB (by simp)) (hba.mono hB) | exact hba.mono hB⟩


end Go.Proofs.Ytlmhhnplacejkaa
