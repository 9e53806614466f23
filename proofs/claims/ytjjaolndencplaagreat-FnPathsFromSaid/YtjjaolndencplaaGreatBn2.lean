/- Texts that the proof reaches: Ranks, Attr, Plan2, Pull, OftP, Hand, Arn, Has, Oft, Cut. -/
import Derived.Test.YtjjaolndencplaaGreatBn1
import Derived.Deep.RegionHeld3
namespace Go.Proofs.YtjjaolndencplaaGreat
open Go.RowKit

/-! ### is a vertex pulled to ranked ones -/
def pSome (ns : List Int) (ins : List Bool) (rk : List Int) : Nat → Bool
  | 0 => false
  | k + 1 => pSome ns ins rk k || (gb ins (gi ns k).toNat && decide (0 ≤ gi rk (gi ns k).toNat))
def pAll (ns : List Int) (ins : List Bool) (rk : List Int) : Nat → Bool
  | 0 => true
  | k + 1 => pAll ns ins rk k && (!gb ins (gi ns k).toNat || decide (0 ≤ gi rk (gi ns k).toNat))
def pIn (ns : List Int) (ins : List Bool) : Nat → Bool
  | 0 => false
  | k + 1 => pIn ns ins k || gb ins (gi ns k).toNat
def pulledB (o : List Int) (n : List (List Int)) (who : Int) (ins : List Bool) (rk : List Int) (v : Nat) : Bool :=
  if gi o v = who then pSome (gl n v) ins rk (gl n v).length else pIn (gl n v) ins (gl n v).length && pAll (gl n v) ins rk (gl n v).length
/-! ### a list into which the elements of a set are written -/
/-! ### the rounds -/
def rnk0 (ins : List Bool) (goal : List Int) (m : Nat) : List Int := fill (fun v => if hasL goal (v : Int) = true then (if gb ins v = true then 0 else -1) else -1) m
def rnkC (o : List Int) (n : List (List Int)) (who : Int) (ins : List Bool) (R : List Int) (v : Nat) : Bool := decide (gi R v < 0) && pulledB o n who ins R v
def rnkS (o : List Int) (n : List (List Int)) (who : Int) (inn : List Int) (ins : List Bool) (R : List Int) (k : Nat) (m : Nat) : List Int := fill (fun v => if hasL inn (v : Int) = true then (if rnkC o n who ins R v = true then (k : Int) else gi R v) else gi R v) m
def rnks (o : List Int) (n : List (List Int)) (who : Int) (inn goal : List Int) (m : Nat) : Nat → List Int
  | 0 => rnk0 (mkM m inn) goal m
  | k + 1 => rnkS o n who inn (mkM m inn) (rnks o n who inn goal m k) (k + 1) m
theorem rnks_len (o : List Int) (n : List (List Int)) (who : Int) (inn goal : List Int) (m k : Nat) : (rnks o n who inn goal m k).length = m := by
  cases k <;> exact fill_len _ _
/-- no vertex comes in with the next round -/
def rnkEnd (o : List Int) (n : List (List Int)) (who : Int) (inn : List Int) (R : List Int) (m : Nat) : Prop := ∀ v, v < m → hasL inn (v : Int) = true → rnkC o n who (mkM m inn) R v = false
theorem rnkS_end {o : List Int} {n : List (List Int)} {who : Int} {inn : List Int} {R : List Int} {m : Nat} (hl : R.length = m) (h : rnkEnd o n who inn R m) (k : Nat) : rnkS o n who inn (mkM m inn) R k m = R := by
  refine gi_ext (by unfold rnkS; rw [fill_len, hl]) fun v hv => ?_
  unfold rnkS at hv ⊢
  rw [fill_len] at hv
  rw [fill_at hv]
  split
  · rename_i hi
    rw [h v hv hi]; rfl
  · rfl
def isRnk (o : List Int) (n : List (List Int)) (who : Int) (inn goal : List Int) (m : Nat) (R : List Int) : Prop := ∃ k, R = rnks o n who inn goal m k ∧ rnkEnd o n who inn R m
theorem rnks_fix {o : List Int} {n : List (List Int)} {who : Int} {inn goal : List Int} {m k : Nat} (h : rnkEnd o n who inn (rnks o n who inn goal m k) m) : ∀ d, rnks o n who inn goal m (k + d) = rnks o n who inn goal m k
  | 0 => rfl
  | d + 1 => by rw [← Nat.add_assoc, rnks, rnks_fix h d, rnkS_end (rnks_len _ _ _ _ _ _ _) h]
theorem isRnk.eq {o : List Int} {n : List (List Int)} {who : Int} {inn goal : List Int} {m : Nat} {r r' : List Int} (h : isRnk o n who inn goal m r) (h' : isRnk o n who inn goal m r') : r = r' := by
  obtain ⟨t, rfl, hf⟩ := h
  obtain ⟨t', rfl, hf'⟩ := h'
  rcases Nat.le_total t t' with hl | hl
  · have := rnks_fix hf (t' - t)
    rw [show t + (t' - t) = t' from by omega] at this
    exact this.symm
  · have := rnks_fix hf' (t - t')
    rw [show t' + (t - t') = t from by omega] at this
    exact this
noncomputable def rankE (o : List Int) (n : List (List Int)) (who : Int) (inn goal : List Int) (m : Nat) : List Int := @Classical.epsilon _ ⟨[]⟩ (isRnk o n who inn goal m)
theorem isRnk.is {o : List Int} {n : List (List Int)} {who : Int} {inn goal : List Int} {m : Nat} {r : List Int} (h : isRnk o n who inn goal m r) : r = rankE o n who inn goal m := h.eq (@Classical.epsilon_spec _ (isRnk o n who inn goal m) ⟨r, h⟩)
theorem isRnk.len {o : List Int} {n : List (List Int)} {who : Int} {inn goal : List Int} {m : Nat} {r : List Int} (h : isRnk o n who inn goal m r) : r.length = m := by
  obtain ⟨t, rfl, _⟩ := h
  exact rnks_len _ _ _ _ _ _ _

/-! ### how many have no rank -/
noncomputable def ranksL (o : List Int) (n : List (List Int)) (who : Int) (inn goal : List Int) : List Int := rankE o n who inn goal o.length
/-! ### ranks and rounds -/
end Go.Proofs.YtjjaolndencplaaGreat
namespace Go.Proofs.YtjjaolndencplaaGreat
open Go.RowKit

/-! ### the rank that those there are give -/
end Go.Proofs.YtjjaolndencplaaGreat
namespace Go.Proofs.YtjjaolndencplaaGreat
open Go.RowKit

end Go.Proofs.YtjjaolndencplaaGreat
namespace Go.Proofs.YtjjaolndencplaaGreat
open Go.RowKit


end Go.Proofs.YtjjaolndencplaaGreat
namespace Go.Proofs.YtjjaolndencplaaGreat
open Go.RowKit

theorem allL_mem {n : Nat} {i : Nat} (h : i < (allL n).length) : gi (allL n) i = (i : Int) := gi_all (by rwa [allL_len] at h)
theorem allL_set (n : Nat) : setB (allL n) (n : Int) = true := setB_true.2 fun i hi => by
  have h : i < n := by rwa [allL_len] at hi
  refine ⟨by rw [gi_all h]; omega, by rw [gi_all h]; omega, fun h0 => ?_⟩
  rw [gi_all h, gi_all (by omega)]
  omega
noncomputable def attrL (o : List Int) (n : List (List Int)) (who : Int) (inn goal : List Int) : List Int := wonUp (ranksL o n who inn goal) o.length
theorem allOf (A0 A1 : Option Addr) (n0 c0 n1 c1 : Nat) (w : World) (B : Nat) (hB : B ≤ w.heap.size) (hn : n0 ≤ 256) :
    Calls Tryz.prog 25 #[.agg #[.slice A0 n0 c0, .slice A1 n1 c1]] w fun e w' => ∃ v, e = .returned v ∧ OI 2 w' B v (allL n0) ∧ Below B w w' := by
  have hba : Below w.heap.size w (w.alloc (.cells #[.slice A0 n0 c0, .slice A1 n1 c1] 30)) := below_alloc (Nat.le_refl _) (Below.refl _ _)
  have bx := Box.new w 30 #[.slice A0 n0 c0, .slice A1 n1 c1]
  have q0 := bx.d0; have q1 := bx.d1
  go_enter Tryz.func25, Tryz.ntmps25
  go_wp2_with fail
  refine (implSize _ _ _ _ _ _ _ _ (Nat.le_refl _) (by omega)).mono ?_; rintro e w0 ⟨rfl, hb0⟩
  have hw0 := below_then hb0 hba.size hba
  go_wp2_with fail
  refine (AllOf _ _ _ (Nat.le_refl _) (by omega) (by omega)).mono ?_; rintro e w1 ⟨v, rfl, ho, hb1⟩
  go_wp2
  go_ret
  exact ⟨_, rfl, ho.more (by have := hw0.size; omega), (below_then hb1 hw0.size hw0).mono hB⟩

end Go.Proofs.YtjjaolndencplaaGreat
namespace Go.Proofs.YtjjaolndencplaaGreat
open Go.RowKit

end Go.Proofs.YtjjaolndencplaaGreat
namespace Go.Proofs.YtjjaolndencplaaGreat
open Go.RowKit

theorem gi_app_lt {xs : List Int} {x : Int} {i : Nat} (h : i < xs.length) : gi (xs ++ [x]) i = gi xs i := by simp [gi, List.getElem?_append_left h]
theorem gi_app_eq {xs : List Int} {x : Int} : gi (xs ++ [x]) xs.length = x := by simp [gi]
theorem listUp_set (ms : List Bool) : ∀ k i, i < (listUp ms k).length → setAt (listUp ms k) (k : Int) i
  | 0, i, h => absurd h (by simp [listUp, pick])
  | k + 1, i, h => by
    have ih := listUp_set ms k
    by_cases e : gb ms k = true
    · have hs : listUp ms (k + 1) = listUp ms k ++ [(k : Int)] := pick_yes e
      rw [hs] at h ⊢
      rw [List.length_append, List.length_singleton] at h
      by_cases hi : i < (listUp ms k).length
      · obtain ⟨h1, h2, h3⟩ := ih i hi
        refine ⟨by rw [gi_app_lt hi]; exact h1, by rw [gi_app_lt hi]; omega, fun h0 => ?_⟩
        rw [gi_app_lt hi, gi_app_lt (by omega)]
        exact h3 h0
      · obtain rfl : i = (listUp ms k).length := by omega
        refine ⟨by rw [gi_app_eq]; omega, by rw [gi_app_eq]; omega, fun h0 => ?_⟩
        rw [gi_app_eq, gi_app_lt (by omega)]
        exact (ih _ (by omega)).2.1
    · have e' : gb ms k = false := by simpa using e
      have hs : listUp ms (k + 1) = listUp ms k := pick_no e'
      rw [hs] at h ⊢
      obtain ⟨h1, h2, h3⟩ := ih i h
      exact ⟨h1, by omega, h3⟩
theorem listM_set {ms : List Bool} {n : Nat} (h : ms.length = n) : setB (listM ms) (n : Int) = true := setB_true.2 fun i hi => by
  subst h
  exact listUp_set ms _ i hi
end Go.Proofs.YtjjaolndencplaaGreat
namespace Go.Proofs.YtjjaolndencplaaGreat
open Go.RowKit

end Go.Proofs.YtjjaolndencplaaGreat
namespace Go.Proofs.YtjjaolndencplaaGreat
open Go.RowKit

/-! ### rising lists -/
theorem rises_pair {xs : List Int} : rises xs ↔ xs.Pairwise (· < ·) := by
  rw [List.pairwise_iff_getElem]
  unfold rises
  constructor
  · intro h i j hi hj hij
    have := h i j hij hj
    rwa [gi_get hi, gi_get hj] at this
  · intro h i j hij hj
    rw [gi_get (by omega), gi_get hj]
    exact h i j (by omega) hj hij
theorem pair_ext : ∀ {a b : List Int}, a.Pairwise (· < ·) → b.Pairwise (· < ·) → (∀ x, x ∈ a ↔ x ∈ b) → a = b
  | [], [], _, _, _ => rfl
  | [], y :: ys, _, _, h => absurd ((h y).2 (List.mem_cons_self ..)) (by simp)
  | x :: xs, [], _, _, h => absurd ((h x).1 (List.mem_cons_self ..)) (by simp)
  | x :: xs, y :: ys, ha, hb, h => by
    rw [List.pairwise_cons] at ha hb
    have e : x = y := by
      rcases List.mem_cons.1 ((h x).1 (List.mem_cons_self ..)) with e | e
      · exact e
      · rcases List.mem_cons.1 ((h y).2 (List.mem_cons_self ..)) with e' | e'
        · exact e'.symm
        · have := hb.1 x e; have := ha.1 y e'; omega
    subst e
    rw [pair_ext ha.2 hb.2 fun z => ?_]
    have hz := h z
    rw [List.mem_cons, List.mem_cons] at hz
    constructor
    · intro m
      rcases hz.1 (.inr m) with e | e
      · have := ha.1 z m; omega
      · exact e
    · intro m
      rcases hz.2 (.inr m) with e | e
      · have := hb.1 z m; omega
      · exact e
theorem rises_ext {a b : List Int} (ha : rises a) (hb : rises b) (h : ∀ x, x ∈ a ↔ x ∈ b) : a = b := pair_ext (rises_pair.1 ha) (rises_pair.1 hb) h
theorem setB_of_rises {xs : List Int} {n : Int} (h : rises xs) (hb : ∀ x, x ∈ xs → 0 ≤ x ∧ x < n) : setB xs n = true := setB_true.2 fun i hi => by
  refine ⟨(hb _ (gi_mem hi)).1, (hb _ (gi_mem hi)).2, fun h0 => h _ _ (by omega) hi⟩
theorem set_mem {xs : List Int} {n : Int} (h : setB xs n = true) {x : Int} (hx : x ∈ xs) : 0 ≤ x ∧ x < n := by
  obtain ⟨i, hi, rfl⟩ := mem_gi hx
  have := setB_true.1 h i hi
  exact ⟨this.1, this.2.1⟩
theorem pick_rises {p : Nat → Bool} {f : Nat → Int} {k : Nat} (h : ∀ i j, i < j → j < k → f i < f j) : rises (pick p f k) := by
  rw [rises_pair]
  induction k with
  | zero => exact List.Pairwise.nil
  | succ k ih =>
    have ih' := ih fun i j h1 h2 => h i j h1 (by omega)
    cases hp : p k with
    | false => rw [pick_no hp]; exact ih'
    | true =>
      rw [pick_yes hp, List.pairwise_append]
      refine ⟨ih', List.pairwise_singleton _ _, fun x hx y hy => ?_⟩
      rw [List.mem_singleton] at hy
      obtain ⟨i, hi, _, rfl⟩ := mem_pick.1 hx
      rw [hy]
      exact h i k hi (by omega)
theorem mem_listM {ms : List Bool} {x : Int} : x ∈ listM ms ↔ ∃ v : Nat, v < ms.length ∧ gb ms v = true ∧ (v : Int) = x := mem_pick
theorem listM_rises (ms : List Bool) : rises (listM ms) := pick_rises fun i j h _ => by omega
theorem hasL_iff {xs : List Int} {x : Int} : hasL xs x = true ↔ x ∈ xs := decide_eq_true_iff
theorem mkM_iff {m : Nat} {xs : List Int} {v : Nat} (hv : v < m) : gb (mkM m xs) v = true ↔ (v : Int) ∈ xs := by rw [mkM_at hv, hasL_iff]

/-! ### the greatest set -/
/-! ### a step into a set -/
/-! ### the attractor -/
/-! ### the rounds -/
/-- who need not leave the set -/
def shut (o : List Int) (n : List (List Int)) (who : Int) (s : List Int) : Prop := ∀ v : Nat, v < o.length → (v : Int) ∈ s → intoB o n who (mkM o.length s) v = true
/-- one round -/
noncomputable def oftStep (o : List Int) (n : List (List Int)) (who : Int) (goal s : List Int) : List Int := listM (stayM o n who (attrL o n who s goal))
theorem gb_lt {ms : List Bool} {v : Nat} (h : gb ms v = true) : v < ms.length := by
  rcases Nat.lt_or_ge v ms.length with h1 | h1
  · exact h1
  · unfold gb at h; rw [List.getD_eq_getElem?_getD, List.getElem?_eq_none h1] at h; cases h
/-- the rounds -/
noncomputable def oftS (o : List Int) (n : List (List Int)) (who : Int) (goal : List Int) : Nat → List Int
  | 0 => allL o.length
  | k + 1 => oftStep o n who goal (oftS o n who goal k)
def isOft (o : List Int) (n : List (List Int)) (who : Int) (goal R : List Int) : Prop := ∃ k, R = oftS o n who goal k ∧ oftStep o n who goal R = R
theorem oftS_fix {o : List Int} {n : List (List Int)} {who : Int} {goal : List Int} {k : Nat} (h : oftStep o n who goal (oftS o n who goal k) = oftS o n who goal k) : ∀ d, oftS o n who goal (k + d) = oftS o n who goal k
  | 0 => rfl
  | d + 1 => by rw [← Nat.add_assoc, oftS, oftS_fix h d, h]
theorem isOft.eq {o : List Int} {n : List (List Int)} {who : Int} {goal r r' : List Int} (h : isOft o n who goal r) (h' : isOft o n who goal r') : r = r' := by
  obtain ⟨t, rfl, hf⟩ := h
  obtain ⟨t', rfl, hf'⟩ := h'
  rcases Nat.le_total t t' with hl | hl
  · have := oftS_fix hf (t' - t)
    rw [show t + (t' - t) = t' from by omega] at this
    exact this.symm
  · have := oftS_fix hf' (t - t')
    rw [show t' + (t - t') = t from by omega] at this
    exact this
noncomputable def oftL (o : List Int) (n : List (List Int)) (who : Int) (goal : List Int) : List Int := @Classical.epsilon _ ⟨[]⟩ (isOft o n who goal)
theorem isOft.is {o : List Int} {n : List (List Int)} {who : Int} {goal r : List Int} (h : isOft o n who goal r) : r = oftL o n who goal := h.eq (@Classical.epsilon_spec _ (isOft o n who goal) ⟨r, h⟩)
/-! ### first choices, ranks -/
section
variable {o : List Int} {n : List (List Int)} {who : Int} {goal : List Int}
end
end Go.Proofs.YtjjaolndencplaaGreat
namespace Go.Proofs.YtjjaolndencplaaGreat
section
variable {P : Program} {Q : Exit → Act → World → Prop} {md : Region.Mode} {S : World → Prop} {fuel : Nat} {listed : Array Bool} {a : Act} {w : World}
theorem takeH0 {o0 : Oper} {r : List Oper} {v : Value} (hs : Region.noSelect (List.toArray (o0 :: r)) = true) (hf : Region.free md (List.toArray (o0 :: r)) listed 0 = true) (hr : (Region.ready md (List.toArray (o0 :: r)) listed).contains 0 = true)
    (hQ : ∀ c a w, Q (.panic c) (a.put o0.dst v) w → Q (.panic c) a w) (hS : S w) (hw : Region.wanted o0 (yielded (List.toArray (o0 :: r)) a.tmps) = true) (hy : ∀ w, S w → (execOp a.eval o0).run P w = .ok (.value v) w)
    (h : wpAnyH P md (List.toArray (o0 :: r)) Q S fuel (listed.setIfInBounds 0 true) (a.put o0.dst v) w) : wpAnyH P md (List.toArray (o0 :: r)) Q S (fuel + 1) listed a w :=
  wpAnyH_take (i := 0) rfl hs hf hr hQ (Or.inl ⟨hw, hy⟩) hS h
theorem callH0 {o0 : Oper} {r : List Oper} (hr : Region.ready md (List.toArray (o0 :: r)) listed = [0])
    (h : ∀ K' : Act → World → Prop, Shut (∀ a w, S w → (S w → wpAnyH P md (List.toArray (o0 :: r)) Q S fuel (listed.setIfInBounds 0 true) a w) → K' a w) → if Region.wanted o0 (yielded (List.toArray (o0 :: r)) a.tmps) = true then Oper.wp P o0 a w K' Q else K' (a.put o0.dst undef) w) :
    wpAnyH P md (List.toArray (o0 :: r)) Q S (fuel + 1) listed a w :=
  wpAnyH_ready (rs := [0]) hr (by simp) (AllReadyH.cons rfl h AllReadyH.nil)
theorem takeH1 {o0 o1 : Oper} {r : List Oper} {v : Value} (hs : Region.noSelect (List.toArray (o0 :: o1 :: r)) = true) (hf : Region.free md (List.toArray (o0 :: o1 :: r)) listed 1 = true) (hr : (Region.ready md (List.toArray (o0 :: o1 :: r)) listed).contains 1 = true)
    (hQ : ∀ c a w, Q (.panic c) (a.put o1.dst v) w → Q (.panic c) a w) (hS : S w) (hw : Region.wanted o1 (yielded (List.toArray (o0 :: o1 :: r)) a.tmps) = true) (hy : ∀ w, S w → (execOp a.eval o1).run P w = .ok (.value v) w)
    (h : wpAnyH P md (List.toArray (o0 :: o1 :: r)) Q S fuel (listed.setIfInBounds 1 true) (a.put o1.dst v) w) : wpAnyH P md (List.toArray (o0 :: o1 :: r)) Q S (fuel + 1) listed a w :=
  wpAnyH_take (i := 1) rfl hs hf hr hQ (Or.inl ⟨hw, hy⟩) hS h
theorem callH1 {o0 o1 : Oper} {r : List Oper} (hr : Region.ready md (List.toArray (o0 :: o1 :: r)) listed = [1])
    (h : ∀ K' : Act → World → Prop, Shut (∀ a w, S w → (S w → wpAnyH P md (List.toArray (o0 :: o1 :: r)) Q S fuel (listed.setIfInBounds 1 true) a w) → K' a w) → if Region.wanted o1 (yielded (List.toArray (o0 :: o1 :: r)) a.tmps) = true then Oper.wp P o1 a w K' Q else K' (a.put o1.dst undef) w) :
    wpAnyH P md (List.toArray (o0 :: o1 :: r)) Q S (fuel + 1) listed a w :=
  wpAnyH_ready (rs := [1]) hr (by simp) (AllReadyH.cons rfl h AllReadyH.nil)
theorem takeH2 {o0 o1 o2 : Oper} {r : List Oper} {v : Value} (hs : Region.noSelect (List.toArray (o0 :: o1 :: o2 :: r)) = true) (hf : Region.free md (List.toArray (o0 :: o1 :: o2 :: r)) listed 2 = true) (hr : (Region.ready md (List.toArray (o0 :: o1 :: o2 :: r)) listed).contains 2 = true)
    (hQ : ∀ c a w, Q (.panic c) (a.put o2.dst v) w → Q (.panic c) a w) (hS : S w) (hw : Region.wanted o2 (yielded (List.toArray (o0 :: o1 :: o2 :: r)) a.tmps) = true) (hy : ∀ w, S w → (execOp a.eval o2).run P w = .ok (.value v) w)
    (h : wpAnyH P md (List.toArray (o0 :: o1 :: o2 :: r)) Q S fuel (listed.setIfInBounds 2 true) (a.put o2.dst v) w) : wpAnyH P md (List.toArray (o0 :: o1 :: o2 :: r)) Q S (fuel + 1) listed a w :=
  wpAnyH_take (i := 2) rfl hs hf hr hQ (Or.inl ⟨hw, hy⟩) hS h
theorem callH2 {o0 o1 o2 : Oper} {r : List Oper} (hr : Region.ready md (List.toArray (o0 :: o1 :: o2 :: r)) listed = [2])
    (h : ∀ K' : Act → World → Prop, Shut (∀ a w, S w → (S w → wpAnyH P md (List.toArray (o0 :: o1 :: o2 :: r)) Q S fuel (listed.setIfInBounds 2 true) a w) → K' a w) → if Region.wanted o2 (yielded (List.toArray (o0 :: o1 :: o2 :: r)) a.tmps) = true then Oper.wp P o2 a w K' Q else K' (a.put o2.dst undef) w) :
    wpAnyH P md (List.toArray (o0 :: o1 :: o2 :: r)) Q S (fuel + 1) listed a w :=
  wpAnyH_ready (rs := [2]) hr (by simp) (AllReadyH.cons rfl h AllReadyH.nil)
theorem takeH3 {o0 o1 o2 o3 : Oper} {r : List Oper} {v : Value} (hs : Region.noSelect (List.toArray (o0 :: o1 :: o2 :: o3 :: r)) = true) (hf : Region.free md (List.toArray (o0 :: o1 :: o2 :: o3 :: r)) listed 3 = true) (hr : (Region.ready md (List.toArray (o0 :: o1 :: o2 :: o3 :: r)) listed).contains 3 = true)
    (hQ : ∀ c a w, Q (.panic c) (a.put o3.dst v) w → Q (.panic c) a w) (hS : S w) (hw : Region.wanted o3 (yielded (List.toArray (o0 :: o1 :: o2 :: o3 :: r)) a.tmps) = true) (hy : ∀ w, S w → (execOp a.eval o3).run P w = .ok (.value v) w)
    (h : wpAnyH P md (List.toArray (o0 :: o1 :: o2 :: o3 :: r)) Q S fuel (listed.setIfInBounds 3 true) (a.put o3.dst v) w) : wpAnyH P md (List.toArray (o0 :: o1 :: o2 :: o3 :: r)) Q S (fuel + 1) listed a w :=
  wpAnyH_take (i := 3) rfl hs hf hr hQ (Or.inl ⟨hw, hy⟩) hS h
theorem callH3 {o0 o1 o2 o3 : Oper} {r : List Oper} (hr : Region.ready md (List.toArray (o0 :: o1 :: o2 :: o3 :: r)) listed = [3])
    (h : ∀ K' : Act → World → Prop, Shut (∀ a w, S w → (S w → wpAnyH P md (List.toArray (o0 :: o1 :: o2 :: o3 :: r)) Q S fuel (listed.setIfInBounds 3 true) a w) → K' a w) → if Region.wanted o3 (yielded (List.toArray (o0 :: o1 :: o2 :: o3 :: r)) a.tmps) = true then Oper.wp P o3 a w K' Q else K' (a.put o3.dst undef) w) :
    wpAnyH P md (List.toArray (o0 :: o1 :: o2 :: o3 :: r)) Q S (fuel + 1) listed a w :=
  wpAnyH_ready (rs := [3]) hr (by simp) (AllReadyH.cons rfl h AllReadyH.nil)
theorem takeH4 {o0 o1 o2 o3 o4 : Oper} {r : List Oper} {v : Value} (hs : Region.noSelect (List.toArray (o0 :: o1 :: o2 :: o3 :: o4 :: r)) = true) (hf : Region.free md (List.toArray (o0 :: o1 :: o2 :: o3 :: o4 :: r)) listed 4 = true) (hr : (Region.ready md (List.toArray (o0 :: o1 :: o2 :: o3 :: o4 :: r)) listed).contains 4 = true)
    (hQ : ∀ c a w, Q (.panic c) (a.put o4.dst v) w → Q (.panic c) a w) (hS : S w) (hw : Region.wanted o4 (yielded (List.toArray (o0 :: o1 :: o2 :: o3 :: o4 :: r)) a.tmps) = true) (hy : ∀ w, S w → (execOp a.eval o4).run P w = .ok (.value v) w)
    (h : wpAnyH P md (List.toArray (o0 :: o1 :: o2 :: o3 :: o4 :: r)) Q S fuel (listed.setIfInBounds 4 true) (a.put o4.dst v) w) : wpAnyH P md (List.toArray (o0 :: o1 :: o2 :: o3 :: o4 :: r)) Q S (fuel + 1) listed a w :=
  wpAnyH_take (i := 4) rfl hs hf hr hQ (Or.inl ⟨hw, hy⟩) hS h
theorem callH4 {o0 o1 o2 o3 o4 : Oper} {r : List Oper} (hr : Region.ready md (List.toArray (o0 :: o1 :: o2 :: o3 :: o4 :: r)) listed = [4])
    (h : ∀ K' : Act → World → Prop, Shut (∀ a w, S w → (S w → wpAnyH P md (List.toArray (o0 :: o1 :: o2 :: o3 :: o4 :: r)) Q S fuel (listed.setIfInBounds 4 true) a w) → K' a w) → if Region.wanted o4 (yielded (List.toArray (o0 :: o1 :: o2 :: o3 :: o4 :: r)) a.tmps) = true then Oper.wp P o4 a w K' Q else K' (a.put o4.dst undef) w) :
    wpAnyH P md (List.toArray (o0 :: o1 :: o2 :: o3 :: o4 :: r)) Q S (fuel + 1) listed a w :=
  wpAnyH_ready (rs := [4]) hr (by simp) (AllReadyH.cons rfl h AllReadyH.nil)
theorem takeH5 {o0 o1 o2 o3 o4 o5 : Oper} {r : List Oper} {v : Value} (hs : Region.noSelect (List.toArray (o0 :: o1 :: o2 :: o3 :: o4 :: o5 :: r)) = true) (hf : Region.free md (List.toArray (o0 :: o1 :: o2 :: o3 :: o4 :: o5 :: r)) listed 5 = true) (hr : (Region.ready md (List.toArray (o0 :: o1 :: o2 :: o3 :: o4 :: o5 :: r)) listed).contains 5 = true)
    (hQ : ∀ c a w, Q (.panic c) (a.put o5.dst v) w → Q (.panic c) a w) (hS : S w) (hw : Region.wanted o5 (yielded (List.toArray (o0 :: o1 :: o2 :: o3 :: o4 :: o5 :: r)) a.tmps) = true) (hy : ∀ w, S w → (execOp a.eval o5).run P w = .ok (.value v) w)
    (h : wpAnyH P md (List.toArray (o0 :: o1 :: o2 :: o3 :: o4 :: o5 :: r)) Q S fuel (listed.setIfInBounds 5 true) (a.put o5.dst v) w) : wpAnyH P md (List.toArray (o0 :: o1 :: o2 :: o3 :: o4 :: o5 :: r)) Q S (fuel + 1) listed a w :=
  wpAnyH_take (i := 5) rfl hs hf hr hQ (Or.inl ⟨hw, hy⟩) hS h
theorem callH5 {o0 o1 o2 o3 o4 o5 : Oper} {r : List Oper} (hr : Region.ready md (List.toArray (o0 :: o1 :: o2 :: o3 :: o4 :: o5 :: r)) listed = [5])
    (h : ∀ K' : Act → World → Prop, Shut (∀ a w, S w → (S w → wpAnyH P md (List.toArray (o0 :: o1 :: o2 :: o3 :: o4 :: o5 :: r)) Q S fuel (listed.setIfInBounds 5 true) a w) → K' a w) → if Region.wanted o5 (yielded (List.toArray (o0 :: o1 :: o2 :: o3 :: o4 :: o5 :: r)) a.tmps) = true then Oper.wp P o5 a w K' Q else K' (a.put o5.dst undef) w) :
    wpAnyH P md (List.toArray (o0 :: o1 :: o2 :: o3 :: o4 :: o5 :: r)) Q S (fuel + 1) listed a w :=
  wpAnyH_ready (rs := [5]) hr (by simp) (AllReadyH.cons rfl h AllReadyH.nil)
theorem takeH6 {o0 o1 o2 o3 o4 o5 o6 : Oper} {r : List Oper} {v : Value} (hs : Region.noSelect (List.toArray (o0 :: o1 :: o2 :: o3 :: o4 :: o5 :: o6 :: r)) = true) (hf : Region.free md (List.toArray (o0 :: o1 :: o2 :: o3 :: o4 :: o5 :: o6 :: r)) listed 6 = true) (hr : (Region.ready md (List.toArray (o0 :: o1 :: o2 :: o3 :: o4 :: o5 :: o6 :: r)) listed).contains 6 = true)
    (hQ : ∀ c a w, Q (.panic c) (a.put o6.dst v) w → Q (.panic c) a w) (hS : S w) (hw : Region.wanted o6 (yielded (List.toArray (o0 :: o1 :: o2 :: o3 :: o4 :: o5 :: o6 :: r)) a.tmps) = true) (hy : ∀ w, S w → (execOp a.eval o6).run P w = .ok (.value v) w)
    (h : wpAnyH P md (List.toArray (o0 :: o1 :: o2 :: o3 :: o4 :: o5 :: o6 :: r)) Q S fuel (listed.setIfInBounds 6 true) (a.put o6.dst v) w) : wpAnyH P md (List.toArray (o0 :: o1 :: o2 :: o3 :: o4 :: o5 :: o6 :: r)) Q S (fuel + 1) listed a w :=
  wpAnyH_take (i := 6) rfl hs hf hr hQ (Or.inl ⟨hw, hy⟩) hS h
theorem skipH6 {o0 o1 o2 o3 o4 o5 o6 : Oper} {r : List Oper} (hs : Region.noSelect (List.toArray (o0 :: o1 :: o2 :: o3 :: o4 :: o5 :: o6 :: r)) = true) (hf : Region.free md (List.toArray (o0 :: o1 :: o2 :: o3 :: o4 :: o5 :: o6 :: r)) listed 6 = true) (hr : (Region.ready md (List.toArray (o0 :: o1 :: o2 :: o3 :: o4 :: o5 :: o6 :: r)) listed).contains 6 = true)
    (hQ : ∀ c a w, Q (.panic c) (a.put o6.dst undef) w → Q (.panic c) a w) (hS : S w) (hw : Region.wanted o6 (yielded (List.toArray (o0 :: o1 :: o2 :: o3 :: o4 :: o5 :: o6 :: r)) a.tmps) = false)
    (h : wpAnyH P md (List.toArray (o0 :: o1 :: o2 :: o3 :: o4 :: o5 :: o6 :: r)) Q S fuel (listed.setIfInBounds 6 true) (a.put o6.dst undef) w) : wpAnyH P md (List.toArray (o0 :: o1 :: o2 :: o3 :: o4 :: o5 :: o6 :: r)) Q S (fuel + 1) listed a w :=
  wpAnyH_take (i := 6) rfl hs hf hr hQ (Or.inr ⟨hw, rfl⟩) hS h
theorem callH6 {o0 o1 o2 o3 o4 o5 o6 : Oper} {r : List Oper} (hr : Region.ready md (List.toArray (o0 :: o1 :: o2 :: o3 :: o4 :: o5 :: o6 :: r)) listed = [6])
    (h : ∀ K' : Act → World → Prop, Shut (∀ a w, S w → (S w → wpAnyH P md (List.toArray (o0 :: o1 :: o2 :: o3 :: o4 :: o5 :: o6 :: r)) Q S fuel (listed.setIfInBounds 6 true) a w) → K' a w) → if Region.wanted o6 (yielded (List.toArray (o0 :: o1 :: o2 :: o3 :: o4 :: o5 :: o6 :: r)) a.tmps) = true then Oper.wp P o6 a w K' Q else K' (a.put o6.dst undef) w) :
    wpAnyH P md (List.toArray (o0 :: o1 :: o2 :: o3 :: o4 :: o5 :: o6 :: r)) Q S (fuel + 1) listed a w :=
  wpAnyH_ready (rs := [6]) hr (by simp) (AllReadyH.cons rfl h AllReadyH.nil)
theorem takeH7 {o0 o1 o2 o3 o4 o5 o6 o7 : Oper} {r : List Oper} {v : Value} (hs : Region.noSelect (List.toArray (o0 :: o1 :: o2 :: o3 :: o4 :: o5 :: o6 :: o7 :: r)) = true) (hf : Region.free md (List.toArray (o0 :: o1 :: o2 :: o3 :: o4 :: o5 :: o6 :: o7 :: r)) listed 7 = true) (hr : (Region.ready md (List.toArray (o0 :: o1 :: o2 :: o3 :: o4 :: o5 :: o6 :: o7 :: r)) listed).contains 7 = true)
    (hQ : ∀ c a w, Q (.panic c) (a.put o7.dst v) w → Q (.panic c) a w) (hS : S w) (hw : Region.wanted o7 (yielded (List.toArray (o0 :: o1 :: o2 :: o3 :: o4 :: o5 :: o6 :: o7 :: r)) a.tmps) = true) (hy : ∀ w, S w → (execOp a.eval o7).run P w = .ok (.value v) w)
    (h : wpAnyH P md (List.toArray (o0 :: o1 :: o2 :: o3 :: o4 :: o5 :: o6 :: o7 :: r)) Q S fuel (listed.setIfInBounds 7 true) (a.put o7.dst v) w) : wpAnyH P md (List.toArray (o0 :: o1 :: o2 :: o3 :: o4 :: o5 :: o6 :: o7 :: r)) Q S (fuel + 1) listed a w :=
  wpAnyH_take (i := 7) rfl hs hf hr hQ (Or.inl ⟨hw, hy⟩) hS h
theorem skipH7 {o0 o1 o2 o3 o4 o5 o6 o7 : Oper} {r : List Oper} (hs : Region.noSelect (List.toArray (o0 :: o1 :: o2 :: o3 :: o4 :: o5 :: o6 :: o7 :: r)) = true) (hf : Region.free md (List.toArray (o0 :: o1 :: o2 :: o3 :: o4 :: o5 :: o6 :: o7 :: r)) listed 7 = true) (hr : (Region.ready md (List.toArray (o0 :: o1 :: o2 :: o3 :: o4 :: o5 :: o6 :: o7 :: r)) listed).contains 7 = true)
    (hQ : ∀ c a w, Q (.panic c) (a.put o7.dst undef) w → Q (.panic c) a w) (hS : S w) (hw : Region.wanted o7 (yielded (List.toArray (o0 :: o1 :: o2 :: o3 :: o4 :: o5 :: o6 :: o7 :: r)) a.tmps) = false)
    (h : wpAnyH P md (List.toArray (o0 :: o1 :: o2 :: o3 :: o4 :: o5 :: o6 :: o7 :: r)) Q S fuel (listed.setIfInBounds 7 true) (a.put o7.dst undef) w) : wpAnyH P md (List.toArray (o0 :: o1 :: o2 :: o3 :: o4 :: o5 :: o6 :: o7 :: r)) Q S (fuel + 1) listed a w :=
  wpAnyH_take (i := 7) rfl hs hf hr hQ (Or.inr ⟨hw, rfl⟩) hS h
theorem callH7 {o0 o1 o2 o3 o4 o5 o6 o7 : Oper} {r : List Oper} (hr : Region.ready md (List.toArray (o0 :: o1 :: o2 :: o3 :: o4 :: o5 :: o6 :: o7 :: r)) listed = [7])
    (h : ∀ K' : Act → World → Prop, Shut (∀ a w, S w → (S w → wpAnyH P md (List.toArray (o0 :: o1 :: o2 :: o3 :: o4 :: o5 :: o6 :: o7 :: r)) Q S fuel (listed.setIfInBounds 7 true) a w) → K' a w) → if Region.wanted o7 (yielded (List.toArray (o0 :: o1 :: o2 :: o3 :: o4 :: o5 :: o6 :: o7 :: r)) a.tmps) = true then Oper.wp P o7 a w K' Q else K' (a.put o7.dst undef) w) :
    wpAnyH P md (List.toArray (o0 :: o1 :: o2 :: o3 :: o4 :: o5 :: o6 :: o7 :: r)) Q S (fuel + 1) listed a w :=
  wpAnyH_ready (rs := [7]) hr (by simp) (AllReadyH.cons rfl h AllReadyH.nil)
theorem takeH8 {o0 o1 o2 o3 o4 o5 o6 o7 o8 : Oper} {r : List Oper} {v : Value} (hs : Region.noSelect (List.toArray (o0 :: o1 :: o2 :: o3 :: o4 :: o5 :: o6 :: o7 :: o8 :: r)) = true) (hf : Region.free md (List.toArray (o0 :: o1 :: o2 :: o3 :: o4 :: o5 :: o6 :: o7 :: o8 :: r)) listed 8 = true) (hr : (Region.ready md (List.toArray (o0 :: o1 :: o2 :: o3 :: o4 :: o5 :: o6 :: o7 :: o8 :: r)) listed).contains 8 = true)
    (hQ : ∀ c a w, Q (.panic c) (a.put o8.dst v) w → Q (.panic c) a w) (hS : S w) (hw : Region.wanted o8 (yielded (List.toArray (o0 :: o1 :: o2 :: o3 :: o4 :: o5 :: o6 :: o7 :: o8 :: r)) a.tmps) = true) (hy : ∀ w, S w → (execOp a.eval o8).run P w = .ok (.value v) w)
    (h : wpAnyH P md (List.toArray (o0 :: o1 :: o2 :: o3 :: o4 :: o5 :: o6 :: o7 :: o8 :: r)) Q S fuel (listed.setIfInBounds 8 true) (a.put o8.dst v) w) : wpAnyH P md (List.toArray (o0 :: o1 :: o2 :: o3 :: o4 :: o5 :: o6 :: o7 :: o8 :: r)) Q S (fuel + 1) listed a w :=
  wpAnyH_take (i := 8) rfl hs hf hr hQ (Or.inl ⟨hw, hy⟩) hS h
theorem skipH8 {o0 o1 o2 o3 o4 o5 o6 o7 o8 : Oper} {r : List Oper} (hs : Region.noSelect (List.toArray (o0 :: o1 :: o2 :: o3 :: o4 :: o5 :: o6 :: o7 :: o8 :: r)) = true) (hf : Region.free md (List.toArray (o0 :: o1 :: o2 :: o3 :: o4 :: o5 :: o6 :: o7 :: o8 :: r)) listed 8 = true) (hr : (Region.ready md (List.toArray (o0 :: o1 :: o2 :: o3 :: o4 :: o5 :: o6 :: o7 :: o8 :: r)) listed).contains 8 = true)
    (hQ : ∀ c a w, Q (.panic c) (a.put o8.dst undef) w → Q (.panic c) a w) (hS : S w) (hw : Region.wanted o8 (yielded (List.toArray (o0 :: o1 :: o2 :: o3 :: o4 :: o5 :: o6 :: o7 :: o8 :: r)) a.tmps) = false)
    (h : wpAnyH P md (List.toArray (o0 :: o1 :: o2 :: o3 :: o4 :: o5 :: o6 :: o7 :: o8 :: r)) Q S fuel (listed.setIfInBounds 8 true) (a.put o8.dst undef) w) : wpAnyH P md (List.toArray (o0 :: o1 :: o2 :: o3 :: o4 :: o5 :: o6 :: o7 :: o8 :: r)) Q S (fuel + 1) listed a w :=
  wpAnyH_take (i := 8) rfl hs hf hr hQ (Or.inr ⟨hw, rfl⟩) hS h
theorem callH8 {o0 o1 o2 o3 o4 o5 o6 o7 o8 : Oper} {r : List Oper} (hr : Region.ready md (List.toArray (o0 :: o1 :: o2 :: o3 :: o4 :: o5 :: o6 :: o7 :: o8 :: r)) listed = [8])
    (h : ∀ K' : Act → World → Prop, Shut (∀ a w, S w → (S w → wpAnyH P md (List.toArray (o0 :: o1 :: o2 :: o3 :: o4 :: o5 :: o6 :: o7 :: o8 :: r)) Q S fuel (listed.setIfInBounds 8 true) a w) → K' a w) → if Region.wanted o8 (yielded (List.toArray (o0 :: o1 :: o2 :: o3 :: o4 :: o5 :: o6 :: o7 :: o8 :: r)) a.tmps) = true then Oper.wp P o8 a w K' Q else K' (a.put o8.dst undef) w) :
    wpAnyH P md (List.toArray (o0 :: o1 :: o2 :: o3 :: o4 :: o5 :: o6 :: o7 :: o8 :: r)) Q S (fuel + 1) listed a w :=
  wpAnyH_ready (rs := [8]) hr (by simp) (AllReadyH.cons rfl h AllReadyH.nil)
theorem takeH9 {o0 o1 o2 o3 o4 o5 o6 o7 o8 o9 : Oper} {r : List Oper} {v : Value} (hs : Region.noSelect (List.toArray (o0 :: o1 :: o2 :: o3 :: o4 :: o5 :: o6 :: o7 :: o8 :: o9 :: r)) = true) (hf : Region.free md (List.toArray (o0 :: o1 :: o2 :: o3 :: o4 :: o5 :: o6 :: o7 :: o8 :: o9 :: r)) listed 9 = true) (hr : (Region.ready md (List.toArray (o0 :: o1 :: o2 :: o3 :: o4 :: o5 :: o6 :: o7 :: o8 :: o9 :: r)) listed).contains 9 = true)
    (hQ : ∀ c a w, Q (.panic c) (a.put o9.dst v) w → Q (.panic c) a w) (hS : S w) (hw : Region.wanted o9 (yielded (List.toArray (o0 :: o1 :: o2 :: o3 :: o4 :: o5 :: o6 :: o7 :: o8 :: o9 :: r)) a.tmps) = true) (hy : ∀ w, S w → (execOp a.eval o9).run P w = .ok (.value v) w)
    (h : wpAnyH P md (List.toArray (o0 :: o1 :: o2 :: o3 :: o4 :: o5 :: o6 :: o7 :: o8 :: o9 :: r)) Q S fuel (listed.setIfInBounds 9 true) (a.put o9.dst v) w) : wpAnyH P md (List.toArray (o0 :: o1 :: o2 :: o3 :: o4 :: o5 :: o6 :: o7 :: o8 :: o9 :: r)) Q S (fuel + 1) listed a w :=
  wpAnyH_take (i := 9) rfl hs hf hr hQ (Or.inl ⟨hw, hy⟩) hS h
theorem skipH9 {o0 o1 o2 o3 o4 o5 o6 o7 o8 o9 : Oper} {r : List Oper} (hs : Region.noSelect (List.toArray (o0 :: o1 :: o2 :: o3 :: o4 :: o5 :: o6 :: o7 :: o8 :: o9 :: r)) = true) (hf : Region.free md (List.toArray (o0 :: o1 :: o2 :: o3 :: o4 :: o5 :: o6 :: o7 :: o8 :: o9 :: r)) listed 9 = true) (hr : (Region.ready md (List.toArray (o0 :: o1 :: o2 :: o3 :: o4 :: o5 :: o6 :: o7 :: o8 :: o9 :: r)) listed).contains 9 = true)
    (hQ : ∀ c a w, Q (.panic c) (a.put o9.dst undef) w → Q (.panic c) a w) (hS : S w) (hw : Region.wanted o9 (yielded (List.toArray (o0 :: o1 :: o2 :: o3 :: o4 :: o5 :: o6 :: o7 :: o8 :: o9 :: r)) a.tmps) = false)
    (h : wpAnyH P md (List.toArray (o0 :: o1 :: o2 :: o3 :: o4 :: o5 :: o6 :: o7 :: o8 :: o9 :: r)) Q S fuel (listed.setIfInBounds 9 true) (a.put o9.dst undef) w) : wpAnyH P md (List.toArray (o0 :: o1 :: o2 :: o3 :: o4 :: o5 :: o6 :: o7 :: o8 :: o9 :: r)) Q S (fuel + 1) listed a w :=
  wpAnyH_take (i := 9) rfl hs hf hr hQ (Or.inr ⟨hw, rfl⟩) hS h
theorem callH9 {o0 o1 o2 o3 o4 o5 o6 o7 o8 o9 : Oper} {r : List Oper} (hr : Region.ready md (List.toArray (o0 :: o1 :: o2 :: o3 :: o4 :: o5 :: o6 :: o7 :: o8 :: o9 :: r)) listed = [9])
    (h : ∀ K' : Act → World → Prop, Shut (∀ a w, S w → (S w → wpAnyH P md (List.toArray (o0 :: o1 :: o2 :: o3 :: o4 :: o5 :: o6 :: o7 :: o8 :: o9 :: r)) Q S fuel (listed.setIfInBounds 9 true) a w) → K' a w) → if Region.wanted o9 (yielded (List.toArray (o0 :: o1 :: o2 :: o3 :: o4 :: o5 :: o6 :: o7 :: o8 :: o9 :: r)) a.tmps) = true then Oper.wp P o9 a w K' Q else K' (a.put o9.dst undef) w) :
    wpAnyH P md (List.toArray (o0 :: o1 :: o2 :: o3 :: o4 :: o5 :: o6 :: o7 :: o8 :: o9 :: r)) Q S (fuel + 1) listed a w :=
  wpAnyH_ready (rs := [9]) hr (by simp) (AllReadyH.cons rfl h AllReadyH.nil)
theorem takeH10 {o0 o1 o2 o3 o4 o5 o6 o7 o8 o9 o10 : Oper} {r : List Oper} {v : Value} (hs : Region.noSelect (List.toArray (o0 :: o1 :: o2 :: o3 :: o4 :: o5 :: o6 :: o7 :: o8 :: o9 :: o10 :: r)) = true) (hf : Region.free md (List.toArray (o0 :: o1 :: o2 :: o3 :: o4 :: o5 :: o6 :: o7 :: o8 :: o9 :: o10 :: r)) listed 10 = true) (hr : (Region.ready md (List.toArray (o0 :: o1 :: o2 :: o3 :: o4 :: o5 :: o6 :: o7 :: o8 :: o9 :: o10 :: r)) listed).contains 10 = true)
    (hQ : ∀ c a w, Q (.panic c) (a.put o10.dst v) w → Q (.panic c) a w) (hS : S w) (hw : Region.wanted o10 (yielded (List.toArray (o0 :: o1 :: o2 :: o3 :: o4 :: o5 :: o6 :: o7 :: o8 :: o9 :: o10 :: r)) a.tmps) = true) (hy : ∀ w, S w → (execOp a.eval o10).run P w = .ok (.value v) w)
    (h : wpAnyH P md (List.toArray (o0 :: o1 :: o2 :: o3 :: o4 :: o5 :: o6 :: o7 :: o8 :: o9 :: o10 :: r)) Q S fuel (listed.setIfInBounds 10 true) (a.put o10.dst v) w) : wpAnyH P md (List.toArray (o0 :: o1 :: o2 :: o3 :: o4 :: o5 :: o6 :: o7 :: o8 :: o9 :: o10 :: r)) Q S (fuel + 1) listed a w :=
  wpAnyH_take (i := 10) rfl hs hf hr hQ (Or.inl ⟨hw, hy⟩) hS h
theorem skipH10 {o0 o1 o2 o3 o4 o5 o6 o7 o8 o9 o10 : Oper} {r : List Oper} (hs : Region.noSelect (List.toArray (o0 :: o1 :: o2 :: o3 :: o4 :: o5 :: o6 :: o7 :: o8 :: o9 :: o10 :: r)) = true) (hf : Region.free md (List.toArray (o0 :: o1 :: o2 :: o3 :: o4 :: o5 :: o6 :: o7 :: o8 :: o9 :: o10 :: r)) listed 10 = true) (hr : (Region.ready md (List.toArray (o0 :: o1 :: o2 :: o3 :: o4 :: o5 :: o6 :: o7 :: o8 :: o9 :: o10 :: r)) listed).contains 10 = true)
    (hQ : ∀ c a w, Q (.panic c) (a.put o10.dst undef) w → Q (.panic c) a w) (hS : S w) (hw : Region.wanted o10 (yielded (List.toArray (o0 :: o1 :: o2 :: o3 :: o4 :: o5 :: o6 :: o7 :: o8 :: o9 :: o10 :: r)) a.tmps) = false)
    (h : wpAnyH P md (List.toArray (o0 :: o1 :: o2 :: o3 :: o4 :: o5 :: o6 :: o7 :: o8 :: o9 :: o10 :: r)) Q S fuel (listed.setIfInBounds 10 true) (a.put o10.dst undef) w) : wpAnyH P md (List.toArray (o0 :: o1 :: o2 :: o3 :: o4 :: o5 :: o6 :: o7 :: o8 :: o9 :: o10 :: r)) Q S (fuel + 1) listed a w :=
  wpAnyH_take (i := 10) rfl hs hf hr hQ (Or.inr ⟨hw, rfl⟩) hS h
theorem callH10 {o0 o1 o2 o3 o4 o5 o6 o7 o8 o9 o10 : Oper} {r : List Oper} (hr : Region.ready md (List.toArray (o0 :: o1 :: o2 :: o3 :: o4 :: o5 :: o6 :: o7 :: o8 :: o9 :: o10 :: r)) listed = [10])
    (h : ∀ K' : Act → World → Prop, Shut (∀ a w, S w → (S w → wpAnyH P md (List.toArray (o0 :: o1 :: o2 :: o3 :: o4 :: o5 :: o6 :: o7 :: o8 :: o9 :: o10 :: r)) Q S fuel (listed.setIfInBounds 10 true) a w) → K' a w) → if Region.wanted o10 (yielded (List.toArray (o0 :: o1 :: o2 :: o3 :: o4 :: o5 :: o6 :: o7 :: o8 :: o9 :: o10 :: r)) a.tmps) = true then Oper.wp P o10 a w K' Q else K' (a.put o10.dst undef) w) :
    wpAnyH P md (List.toArray (o0 :: o1 :: o2 :: o3 :: o4 :: o5 :: o6 :: o7 :: o8 :: o9 :: o10 :: r)) Q S (fuel + 1) listed a w :=
  wpAnyH_ready (rs := [10]) hr (by simp) (AllReadyH.cons rfl h AllReadyH.nil)
theorem takeH11 {o0 o1 o2 o3 o4 o5 o6 o7 o8 o9 o10 o11 : Oper} {r : List Oper} {v : Value} (hs : Region.noSelect (List.toArray (o0 :: o1 :: o2 :: o3 :: o4 :: o5 :: o6 :: o7 :: o8 :: o9 :: o10 :: o11 :: r)) = true) (hf : Region.free md (List.toArray (o0 :: o1 :: o2 :: o3 :: o4 :: o5 :: o6 :: o7 :: o8 :: o9 :: o10 :: o11 :: r)) listed 11 = true) (hr : (Region.ready md (List.toArray (o0 :: o1 :: o2 :: o3 :: o4 :: o5 :: o6 :: o7 :: o8 :: o9 :: o10 :: o11 :: r)) listed).contains 11 = true)
    (hQ : ∀ c a w, Q (.panic c) (a.put o11.dst v) w → Q (.panic c) a w) (hS : S w) (hw : Region.wanted o11 (yielded (List.toArray (o0 :: o1 :: o2 :: o3 :: o4 :: o5 :: o6 :: o7 :: o8 :: o9 :: o10 :: o11 :: r)) a.tmps) = true) (hy : ∀ w, S w → (execOp a.eval o11).run P w = .ok (.value v) w)
    (h : wpAnyH P md (List.toArray (o0 :: o1 :: o2 :: o3 :: o4 :: o5 :: o6 :: o7 :: o8 :: o9 :: o10 :: o11 :: r)) Q S fuel (listed.setIfInBounds 11 true) (a.put o11.dst v) w) : wpAnyH P md (List.toArray (o0 :: o1 :: o2 :: o3 :: o4 :: o5 :: o6 :: o7 :: o8 :: o9 :: o10 :: o11 :: r)) Q S (fuel + 1) listed a w :=
  wpAnyH_take (i := 11) rfl hs hf hr hQ (Or.inl ⟨hw, hy⟩) hS h
theorem skipH11 {o0 o1 o2 o3 o4 o5 o6 o7 o8 o9 o10 o11 : Oper} {r : List Oper} (hs : Region.noSelect (List.toArray (o0 :: o1 :: o2 :: o3 :: o4 :: o5 :: o6 :: o7 :: o8 :: o9 :: o10 :: o11 :: r)) = true) (hf : Region.free md (List.toArray (o0 :: o1 :: o2 :: o3 :: o4 :: o5 :: o6 :: o7 :: o8 :: o9 :: o10 :: o11 :: r)) listed 11 = true) (hr : (Region.ready md (List.toArray (o0 :: o1 :: o2 :: o3 :: o4 :: o5 :: o6 :: o7 :: o8 :: o9 :: o10 :: o11 :: r)) listed).contains 11 = true)
    (hQ : ∀ c a w, Q (.panic c) (a.put o11.dst undef) w → Q (.panic c) a w) (hS : S w) (hw : Region.wanted o11 (yielded (List.toArray (o0 :: o1 :: o2 :: o3 :: o4 :: o5 :: o6 :: o7 :: o8 :: o9 :: o10 :: o11 :: r)) a.tmps) = false)
    (h : wpAnyH P md (List.toArray (o0 :: o1 :: o2 :: o3 :: o4 :: o5 :: o6 :: o7 :: o8 :: o9 :: o10 :: o11 :: r)) Q S fuel (listed.setIfInBounds 11 true) (a.put o11.dst undef) w) : wpAnyH P md (List.toArray (o0 :: o1 :: o2 :: o3 :: o4 :: o5 :: o6 :: o7 :: o8 :: o9 :: o10 :: o11 :: r)) Q S (fuel + 1) listed a w :=
  wpAnyH_take (i := 11) rfl hs hf hr hQ (Or.inr ⟨hw, rfl⟩) hS h
theorem takeH12 {o0 o1 o2 o3 o4 o5 o6 o7 o8 o9 o10 o11 o12 : Oper} {r : List Oper} {v : Value} (hs : Region.noSelect (List.toArray (o0 :: o1 :: o2 :: o3 :: o4 :: o5 :: o6 :: o7 :: o8 :: o9 :: o10 :: o11 :: o12 :: r)) = true) (hf : Region.free md (List.toArray (o0 :: o1 :: o2 :: o3 :: o4 :: o5 :: o6 :: o7 :: o8 :: o9 :: o10 :: o11 :: o12 :: r)) listed 12 = true) (hr : (Region.ready md (List.toArray (o0 :: o1 :: o2 :: o3 :: o4 :: o5 :: o6 :: o7 :: o8 :: o9 :: o10 :: o11 :: o12 :: r)) listed).contains 12 = true)
    (hQ : ∀ c a w, Q (.panic c) (a.put o12.dst v) w → Q (.panic c) a w) (hS : S w) (hw : Region.wanted o12 (yielded (List.toArray (o0 :: o1 :: o2 :: o3 :: o4 :: o5 :: o6 :: o7 :: o8 :: o9 :: o10 :: o11 :: o12 :: r)) a.tmps) = true) (hy : ∀ w, S w → (execOp a.eval o12).run P w = .ok (.value v) w)
    (h : wpAnyH P md (List.toArray (o0 :: o1 :: o2 :: o3 :: o4 :: o5 :: o6 :: o7 :: o8 :: o9 :: o10 :: o11 :: o12 :: r)) Q S fuel (listed.setIfInBounds 12 true) (a.put o12.dst v) w) : wpAnyH P md (List.toArray (o0 :: o1 :: o2 :: o3 :: o4 :: o5 :: o6 :: o7 :: o8 :: o9 :: o10 :: o11 :: o12 :: r)) Q S (fuel + 1) listed a w :=
  wpAnyH_take (i := 12) rfl hs hf hr hQ (Or.inl ⟨hw, hy⟩) hS h
theorem skipH12 {o0 o1 o2 o3 o4 o5 o6 o7 o8 o9 o10 o11 o12 : Oper} {r : List Oper} (hs : Region.noSelect (List.toArray (o0 :: o1 :: o2 :: o3 :: o4 :: o5 :: o6 :: o7 :: o8 :: o9 :: o10 :: o11 :: o12 :: r)) = true) (hf : Region.free md (List.toArray (o0 :: o1 :: o2 :: o3 :: o4 :: o5 :: o6 :: o7 :: o8 :: o9 :: o10 :: o11 :: o12 :: r)) listed 12 = true) (hr : (Region.ready md (List.toArray (o0 :: o1 :: o2 :: o3 :: o4 :: o5 :: o6 :: o7 :: o8 :: o9 :: o10 :: o11 :: o12 :: r)) listed).contains 12 = true)
    (hQ : ∀ c a w, Q (.panic c) (a.put o12.dst undef) w → Q (.panic c) a w) (hS : S w) (hw : Region.wanted o12 (yielded (List.toArray (o0 :: o1 :: o2 :: o3 :: o4 :: o5 :: o6 :: o7 :: o8 :: o9 :: o10 :: o11 :: o12 :: r)) a.tmps) = false)
    (h : wpAnyH P md (List.toArray (o0 :: o1 :: o2 :: o3 :: o4 :: o5 :: o6 :: o7 :: o8 :: o9 :: o10 :: o11 :: o12 :: r)) Q S fuel (listed.setIfInBounds 12 true) (a.put o12.dst undef) w) : wpAnyH P md (List.toArray (o0 :: o1 :: o2 :: o3 :: o4 :: o5 :: o6 :: o7 :: o8 :: o9 :: o10 :: o11 :: o12 :: r)) Q S (fuel + 1) listed a w :=
  wpAnyH_take (i := 12) rfl hs hf hr hQ (Or.inr ⟨hw, rfl⟩) hS h
theorem callH12 {o0 o1 o2 o3 o4 o5 o6 o7 o8 o9 o10 o11 o12 : Oper} {r : List Oper} (hr : Region.ready md (List.toArray (o0 :: o1 :: o2 :: o3 :: o4 :: o5 :: o6 :: o7 :: o8 :: o9 :: o10 :: o11 :: o12 :: r)) listed = [12])
    (h : ∀ K' : Act → World → Prop, Shut (∀ a w, S w → (S w → wpAnyH P md (List.toArray (o0 :: o1 :: o2 :: o3 :: o4 :: o5 :: o6 :: o7 :: o8 :: o9 :: o10 :: o11 :: o12 :: r)) Q S fuel (listed.setIfInBounds 12 true) a w) → K' a w) → if Region.wanted o12 (yielded (List.toArray (o0 :: o1 :: o2 :: o3 :: o4 :: o5 :: o6 :: o7 :: o8 :: o9 :: o10 :: o11 :: o12 :: r)) a.tmps) = true then Oper.wp P o12 a w K' Q else K' (a.put o12.dst undef) w) :
    wpAnyH P md (List.toArray (o0 :: o1 :: o2 :: o3 :: o4 :: o5 :: o6 :: o7 :: o8 :: o9 :: o10 :: o11 :: o12 :: r)) Q S (fuel + 1) listed a w :=
  wpAnyH_ready (rs := [12]) hr (by simp) (AllReadyH.cons rfl h AllReadyH.nil)
theorem takeH13 {o0 o1 o2 o3 o4 o5 o6 o7 o8 o9 o10 o11 o12 o13 : Oper} {r : List Oper} {v : Value} (hs : Region.noSelect (List.toArray (o0 :: o1 :: o2 :: o3 :: o4 :: o5 :: o6 :: o7 :: o8 :: o9 :: o10 :: o11 :: o12 :: o13 :: r)) = true) (hf : Region.free md (List.toArray (o0 :: o1 :: o2 :: o3 :: o4 :: o5 :: o6 :: o7 :: o8 :: o9 :: o10 :: o11 :: o12 :: o13 :: r)) listed 13 = true) (hr : (Region.ready md (List.toArray (o0 :: o1 :: o2 :: o3 :: o4 :: o5 :: o6 :: o7 :: o8 :: o9 :: o10 :: o11 :: o12 :: o13 :: r)) listed).contains 13 = true)
    (hQ : ∀ c a w, Q (.panic c) (a.put o13.dst v) w → Q (.panic c) a w) (hS : S w) (hw : Region.wanted o13 (yielded (List.toArray (o0 :: o1 :: o2 :: o3 :: o4 :: o5 :: o6 :: o7 :: o8 :: o9 :: o10 :: o11 :: o12 :: o13 :: r)) a.tmps) = true) (hy : ∀ w, S w → (execOp a.eval o13).run P w = .ok (.value v) w)
    (h : wpAnyH P md (List.toArray (o0 :: o1 :: o2 :: o3 :: o4 :: o5 :: o6 :: o7 :: o8 :: o9 :: o10 :: o11 :: o12 :: o13 :: r)) Q S fuel (listed.setIfInBounds 13 true) (a.put o13.dst v) w) : wpAnyH P md (List.toArray (o0 :: o1 :: o2 :: o3 :: o4 :: o5 :: o6 :: o7 :: o8 :: o9 :: o10 :: o11 :: o12 :: o13 :: r)) Q S (fuel + 1) listed a w :=
  wpAnyH_take (i := 13) rfl hs hf hr hQ (Or.inl ⟨hw, hy⟩) hS h
theorem skipH13 {o0 o1 o2 o3 o4 o5 o6 o7 o8 o9 o10 o11 o12 o13 : Oper} {r : List Oper} (hs : Region.noSelect (List.toArray (o0 :: o1 :: o2 :: o3 :: o4 :: o5 :: o6 :: o7 :: o8 :: o9 :: o10 :: o11 :: o12 :: o13 :: r)) = true) (hf : Region.free md (List.toArray (o0 :: o1 :: o2 :: o3 :: o4 :: o5 :: o6 :: o7 :: o8 :: o9 :: o10 :: o11 :: o12 :: o13 :: r)) listed 13 = true) (hr : (Region.ready md (List.toArray (o0 :: o1 :: o2 :: o3 :: o4 :: o5 :: o6 :: o7 :: o8 :: o9 :: o10 :: o11 :: o12 :: o13 :: r)) listed).contains 13 = true)
    (hQ : ∀ c a w, Q (.panic c) (a.put o13.dst undef) w → Q (.panic c) a w) (hS : S w) (hw : Region.wanted o13 (yielded (List.toArray (o0 :: o1 :: o2 :: o3 :: o4 :: o5 :: o6 :: o7 :: o8 :: o9 :: o10 :: o11 :: o12 :: o13 :: r)) a.tmps) = false)
    (h : wpAnyH P md (List.toArray (o0 :: o1 :: o2 :: o3 :: o4 :: o5 :: o6 :: o7 :: o8 :: o9 :: o10 :: o11 :: o12 :: o13 :: r)) Q S fuel (listed.setIfInBounds 13 true) (a.put o13.dst undef) w) : wpAnyH P md (List.toArray (o0 :: o1 :: o2 :: o3 :: o4 :: o5 :: o6 :: o7 :: o8 :: o9 :: o10 :: o11 :: o12 :: o13 :: r)) Q S (fuel + 1) listed a w :=
  wpAnyH_take (i := 13) rfl hs hf hr hQ (Or.inr ⟨hw, rfl⟩) hS h
theorem callH13 {o0 o1 o2 o3 o4 o5 o6 o7 o8 o9 o10 o11 o12 o13 : Oper} {r : List Oper} (hr : Region.ready md (List.toArray (o0 :: o1 :: o2 :: o3 :: o4 :: o5 :: o6 :: o7 :: o8 :: o9 :: o10 :: o11 :: o12 :: o13 :: r)) listed = [13])
    (h : ∀ K' : Act → World → Prop, Shut (∀ a w, S w → (S w → wpAnyH P md (List.toArray (o0 :: o1 :: o2 :: o3 :: o4 :: o5 :: o6 :: o7 :: o8 :: o9 :: o10 :: o11 :: o12 :: o13 :: r)) Q S fuel (listed.setIfInBounds 13 true) a w) → K' a w) → if Region.wanted o13 (yielded (List.toArray (o0 :: o1 :: o2 :: o3 :: o4 :: o5 :: o6 :: o7 :: o8 :: o9 :: o10 :: o11 :: o12 :: o13 :: r)) a.tmps) = true then Oper.wp P o13 a w K' Q else K' (a.put o13.dst undef) w) :
    wpAnyH P md (List.toArray (o0 :: o1 :: o2 :: o3 :: o4 :: o5 :: o6 :: o7 :: o8 :: o9 :: o10 :: o11 :: o12 :: o13 :: r)) Q S (fuel + 1) listed a w :=
  wpAnyH_ready (rs := [13]) hr (by simp) (AllReadyH.cons rfl h AllReadyH.nil)
theorem takeH14 {o0 o1 o2 o3 o4 o5 o6 o7 o8 o9 o10 o11 o12 o13 o14 : Oper} {r : List Oper} {v : Value} (hs : Region.noSelect (List.toArray (o0 :: o1 :: o2 :: o3 :: o4 :: o5 :: o6 :: o7 :: o8 :: o9 :: o10 :: o11 :: o12 :: o13 :: o14 :: r)) = true) (hf : Region.free md (List.toArray (o0 :: o1 :: o2 :: o3 :: o4 :: o5 :: o6 :: o7 :: o8 :: o9 :: o10 :: o11 :: o12 :: o13 :: o14 :: r)) listed 14 = true) (hr : (Region.ready md (List.toArray (o0 :: o1 :: o2 :: o3 :: o4 :: o5 :: o6 :: o7 :: o8 :: o9 :: o10 :: o11 :: o12 :: o13 :: o14 :: r)) listed).contains 14 = true)
    (hQ : ∀ c a w, Q (.panic c) (a.put o14.dst v) w → Q (.panic c) a w) (hS : S w) (hw : Region.wanted o14 (yielded (List.toArray (o0 :: o1 :: o2 :: o3 :: o4 :: o5 :: o6 :: o7 :: o8 :: o9 :: o10 :: o11 :: o12 :: o13 :: o14 :: r)) a.tmps) = true) (hy : ∀ w, S w → (execOp a.eval o14).run P w = .ok (.value v) w)
    (h : wpAnyH P md (List.toArray (o0 :: o1 :: o2 :: o3 :: o4 :: o5 :: o6 :: o7 :: o8 :: o9 :: o10 :: o11 :: o12 :: o13 :: o14 :: r)) Q S fuel (listed.setIfInBounds 14 true) (a.put o14.dst v) w) : wpAnyH P md (List.toArray (o0 :: o1 :: o2 :: o3 :: o4 :: o5 :: o6 :: o7 :: o8 :: o9 :: o10 :: o11 :: o12 :: o13 :: o14 :: r)) Q S (fuel + 1) listed a w :=
  wpAnyH_take (i := 14) rfl hs hf hr hQ (Or.inl ⟨hw, hy⟩) hS h
theorem skipH14 {o0 o1 o2 o3 o4 o5 o6 o7 o8 o9 o10 o11 o12 o13 o14 : Oper} {r : List Oper} (hs : Region.noSelect (List.toArray (o0 :: o1 :: o2 :: o3 :: o4 :: o5 :: o6 :: o7 :: o8 :: o9 :: o10 :: o11 :: o12 :: o13 :: o14 :: r)) = true) (hf : Region.free md (List.toArray (o0 :: o1 :: o2 :: o3 :: o4 :: o5 :: o6 :: o7 :: o8 :: o9 :: o10 :: o11 :: o12 :: o13 :: o14 :: r)) listed 14 = true) (hr : (Region.ready md (List.toArray (o0 :: o1 :: o2 :: o3 :: o4 :: o5 :: o6 :: o7 :: o8 :: o9 :: o10 :: o11 :: o12 :: o13 :: o14 :: r)) listed).contains 14 = true)
    (hQ : ∀ c a w, Q (.panic c) (a.put o14.dst undef) w → Q (.panic c) a w) (hS : S w) (hw : Region.wanted o14 (yielded (List.toArray (o0 :: o1 :: o2 :: o3 :: o4 :: o5 :: o6 :: o7 :: o8 :: o9 :: o10 :: o11 :: o12 :: o13 :: o14 :: r)) a.tmps) = false)
    (h : wpAnyH P md (List.toArray (o0 :: o1 :: o2 :: o3 :: o4 :: o5 :: o6 :: o7 :: o8 :: o9 :: o10 :: o11 :: o12 :: o13 :: o14 :: r)) Q S fuel (listed.setIfInBounds 14 true) (a.put o14.dst undef) w) : wpAnyH P md (List.toArray (o0 :: o1 :: o2 :: o3 :: o4 :: o5 :: o6 :: o7 :: o8 :: o9 :: o10 :: o11 :: o12 :: o13 :: o14 :: r)) Q S (fuel + 1) listed a w :=
  wpAnyH_take (i := 14) rfl hs hf hr hQ (Or.inr ⟨hw, rfl⟩) hS h
theorem callH14 {o0 o1 o2 o3 o4 o5 o6 o7 o8 o9 o10 o11 o12 o13 o14 : Oper} {r : List Oper} (hr : Region.ready md (List.toArray (o0 :: o1 :: o2 :: o3 :: o4 :: o5 :: o6 :: o7 :: o8 :: o9 :: o10 :: o11 :: o12 :: o13 :: o14 :: r)) listed = [14])
    (h : ∀ K' : Act → World → Prop, Shut (∀ a w, S w → (S w → wpAnyH P md (List.toArray (o0 :: o1 :: o2 :: o3 :: o4 :: o5 :: o6 :: o7 :: o8 :: o9 :: o10 :: o11 :: o12 :: o13 :: o14 :: r)) Q S fuel (listed.setIfInBounds 14 true) a w) → K' a w) → if Region.wanted o14 (yielded (List.toArray (o0 :: o1 :: o2 :: o3 :: o4 :: o5 :: o6 :: o7 :: o8 :: o9 :: o10 :: o11 :: o12 :: o13 :: o14 :: r)) a.tmps) = true then Oper.wp P o14 a w K' Q else K' (a.put o14.dst undef) w) :
    wpAnyH P md (List.toArray (o0 :: o1 :: o2 :: o3 :: o4 :: o5 :: o6 :: o7 :: o8 :: o9 :: o10 :: o11 :: o12 :: o13 :: o14 :: r)) Q S (fuel + 1) listed a w :=
  wpAnyH_ready (rs := [14]) hr (by simp) (AllReadyH.cons rfl h AllReadyH.nil)
theorem takeH15 {o0 o1 o2 o3 o4 o5 o6 o7 o8 o9 o10 o11 o12 o13 o14 o15 : Oper} {r : List Oper} {v : Value} (hs : Region.noSelect (List.toArray (o0 :: o1 :: o2 :: o3 :: o4 :: o5 :: o6 :: o7 :: o8 :: o9 :: o10 :: o11 :: o12 :: o13 :: o14 :: o15 :: r)) = true) (hf : Region.free md (List.toArray (o0 :: o1 :: o2 :: o3 :: o4 :: o5 :: o6 :: o7 :: o8 :: o9 :: o10 :: o11 :: o12 :: o13 :: o14 :: o15 :: r)) listed 15 = true) (hr : (Region.ready md (List.toArray (o0 :: o1 :: o2 :: o3 :: o4 :: o5 :: o6 :: o7 :: o8 :: o9 :: o10 :: o11 :: o12 :: o13 :: o14 :: o15 :: r)) listed).contains 15 = true)
    (hQ : ∀ c a w, Q (.panic c) (a.put o15.dst v) w → Q (.panic c) a w) (hS : S w) (hw : Region.wanted o15 (yielded (List.toArray (o0 :: o1 :: o2 :: o3 :: o4 :: o5 :: o6 :: o7 :: o8 :: o9 :: o10 :: o11 :: o12 :: o13 :: o14 :: o15 :: r)) a.tmps) = true) (hy : ∀ w, S w → (execOp a.eval o15).run P w = .ok (.value v) w)
    (h : wpAnyH P md (List.toArray (o0 :: o1 :: o2 :: o3 :: o4 :: o5 :: o6 :: o7 :: o8 :: o9 :: o10 :: o11 :: o12 :: o13 :: o14 :: o15 :: r)) Q S fuel (listed.setIfInBounds 15 true) (a.put o15.dst v) w) : wpAnyH P md (List.toArray (o0 :: o1 :: o2 :: o3 :: o4 :: o5 :: o6 :: o7 :: o8 :: o9 :: o10 :: o11 :: o12 :: o13 :: o14 :: o15 :: r)) Q S (fuel + 1) listed a w :=
  wpAnyH_take (i := 15) rfl hs hf hr hQ (Or.inl ⟨hw, hy⟩) hS h
theorem skipH15 {o0 o1 o2 o3 o4 o5 o6 o7 o8 o9 o10 o11 o12 o13 o14 o15 : Oper} {r : List Oper} (hs : Region.noSelect (List.toArray (o0 :: o1 :: o2 :: o3 :: o4 :: o5 :: o6 :: o7 :: o8 :: o9 :: o10 :: o11 :: o12 :: o13 :: o14 :: o15 :: r)) = true) (hf : Region.free md (List.toArray (o0 :: o1 :: o2 :: o3 :: o4 :: o5 :: o6 :: o7 :: o8 :: o9 :: o10 :: o11 :: o12 :: o13 :: o14 :: o15 :: r)) listed 15 = true) (hr : (Region.ready md (List.toArray (o0 :: o1 :: o2 :: o3 :: o4 :: o5 :: o6 :: o7 :: o8 :: o9 :: o10 :: o11 :: o12 :: o13 :: o14 :: o15 :: r)) listed).contains 15 = true)
    (hQ : ∀ c a w, Q (.panic c) (a.put o15.dst undef) w → Q (.panic c) a w) (hS : S w) (hw : Region.wanted o15 (yielded (List.toArray (o0 :: o1 :: o2 :: o3 :: o4 :: o5 :: o6 :: o7 :: o8 :: o9 :: o10 :: o11 :: o12 :: o13 :: o14 :: o15 :: r)) a.tmps) = false)
    (h : wpAnyH P md (List.toArray (o0 :: o1 :: o2 :: o3 :: o4 :: o5 :: o6 :: o7 :: o8 :: o9 :: o10 :: o11 :: o12 :: o13 :: o14 :: o15 :: r)) Q S fuel (listed.setIfInBounds 15 true) (a.put o15.dst undef) w) : wpAnyH P md (List.toArray (o0 :: o1 :: o2 :: o3 :: o4 :: o5 :: o6 :: o7 :: o8 :: o9 :: o10 :: o11 :: o12 :: o13 :: o14 :: o15 :: r)) Q S (fuel + 1) listed a w :=
  wpAnyH_take (i := 15) rfl hs hf hr hQ (Or.inr ⟨hw, rfl⟩) hS h
theorem takeH16 {o0 o1 o2 o3 o4 o5 o6 o7 o8 o9 o10 o11 o12 o13 o14 o15 o16 : Oper} {r : List Oper} {v : Value} (hs : Region.noSelect (List.toArray (o0 :: o1 :: o2 :: o3 :: o4 :: o5 :: o6 :: o7 :: o8 :: o9 :: o10 :: o11 :: o12 :: o13 :: o14 :: o15 :: o16 :: r)) = true) (hf : Region.free md (List.toArray (o0 :: o1 :: o2 :: o3 :: o4 :: o5 :: o6 :: o7 :: o8 :: o9 :: o10 :: o11 :: o12 :: o13 :: o14 :: o15 :: o16 :: r)) listed 16 = true) (hr : (Region.ready md (List.toArray (o0 :: o1 :: o2 :: o3 :: o4 :: o5 :: o6 :: o7 :: o8 :: o9 :: o10 :: o11 :: o12 :: o13 :: o14 :: o15 :: o16 :: r)) listed).contains 16 = true)
    (hQ : ∀ c a w, Q (.panic c) (a.put o16.dst v) w → Q (.panic c) a w) (hS : S w) (hw : Region.wanted o16 (yielded (List.toArray (o0 :: o1 :: o2 :: o3 :: o4 :: o5 :: o6 :: o7 :: o8 :: o9 :: o10 :: o11 :: o12 :: o13 :: o14 :: o15 :: o16 :: r)) a.tmps) = true) (hy : ∀ w, S w → (execOp a.eval o16).run P w = .ok (.value v) w)
    (h : wpAnyH P md (List.toArray (o0 :: o1 :: o2 :: o3 :: o4 :: o5 :: o6 :: o7 :: o8 :: o9 :: o10 :: o11 :: o12 :: o13 :: o14 :: o15 :: o16 :: r)) Q S fuel (listed.setIfInBounds 16 true) (a.put o16.dst v) w) : wpAnyH P md (List.toArray (o0 :: o1 :: o2 :: o3 :: o4 :: o5 :: o6 :: o7 :: o8 :: o9 :: o10 :: o11 :: o12 :: o13 :: o14 :: o15 :: o16 :: r)) Q S (fuel + 1) listed a w :=
  wpAnyH_take (i := 16) rfl hs hf hr hQ (Or.inl ⟨hw, hy⟩) hS h
theorem skipH16 {o0 o1 o2 o3 o4 o5 o6 o7 o8 o9 o10 o11 o12 o13 o14 o15 o16 : Oper} {r : List Oper} (hs : Region.noSelect (List.toArray (o0 :: o1 :: o2 :: o3 :: o4 :: o5 :: o6 :: o7 :: o8 :: o9 :: o10 :: o11 :: o12 :: o13 :: o14 :: o15 :: o16 :: r)) = true) (hf : Region.free md (List.toArray (o0 :: o1 :: o2 :: o3 :: o4 :: o5 :: o6 :: o7 :: o8 :: o9 :: o10 :: o11 :: o12 :: o13 :: o14 :: o15 :: o16 :: r)) listed 16 = true) (hr : (Region.ready md (List.toArray (o0 :: o1 :: o2 :: o3 :: o4 :: o5 :: o6 :: o7 :: o8 :: o9 :: o10 :: o11 :: o12 :: o13 :: o14 :: o15 :: o16 :: r)) listed).contains 16 = true)
    (hQ : ∀ c a w, Q (.panic c) (a.put o16.dst undef) w → Q (.panic c) a w) (hS : S w) (hw : Region.wanted o16 (yielded (List.toArray (o0 :: o1 :: o2 :: o3 :: o4 :: o5 :: o6 :: o7 :: o8 :: o9 :: o10 :: o11 :: o12 :: o13 :: o14 :: o15 :: o16 :: r)) a.tmps) = false)
    (h : wpAnyH P md (List.toArray (o0 :: o1 :: o2 :: o3 :: o4 :: o5 :: o6 :: o7 :: o8 :: o9 :: o10 :: o11 :: o12 :: o13 :: o14 :: o15 :: o16 :: r)) Q S fuel (listed.setIfInBounds 16 true) (a.put o16.dst undef) w) : wpAnyH P md (List.toArray (o0 :: o1 :: o2 :: o3 :: o4 :: o5 :: o6 :: o7 :: o8 :: o9 :: o10 :: o11 :: o12 :: o13 :: o14 :: o15 :: o16 :: r)) Q S (fuel + 1) listed a w :=
  wpAnyH_take (i := 16) rfl hs hf hr hQ (Or.inr ⟨hw, rfl⟩) hS h
theorem takeH17 {o0 o1 o2 o3 o4 o5 o6 o7 o8 o9 o10 o11 o12 o13 o14 o15 o16 o17 : Oper} {r : List Oper} {v : Value} (hs : Region.noSelect (List.toArray (o0 :: o1 :: o2 :: o3 :: o4 :: o5 :: o6 :: o7 :: o8 :: o9 :: o10 :: o11 :: o12 :: o13 :: o14 :: o15 :: o16 :: o17 :: r)) = true) (hf : Region.free md (List.toArray (o0 :: o1 :: o2 :: o3 :: o4 :: o5 :: o6 :: o7 :: o8 :: o9 :: o10 :: o11 :: o12 :: o13 :: o14 :: o15 :: o16 :: o17 :: r)) listed 17 = true) (hr : (Region.ready md (List.toArray (o0 :: o1 :: o2 :: o3 :: o4 :: o5 :: o6 :: o7 :: o8 :: o9 :: o10 :: o11 :: o12 :: o13 :: o14 :: o15 :: o16 :: o17 :: r)) listed).contains 17 = true)
    (hQ : ∀ c a w, Q (.panic c) (a.put o17.dst v) w → Q (.panic c) a w) (hS : S w) (hw : Region.wanted o17 (yielded (List.toArray (o0 :: o1 :: o2 :: o3 :: o4 :: o5 :: o6 :: o7 :: o8 :: o9 :: o10 :: o11 :: o12 :: o13 :: o14 :: o15 :: o16 :: o17 :: r)) a.tmps) = true) (hy : ∀ w, S w → (execOp a.eval o17).run P w = .ok (.value v) w)
    (h : wpAnyH P md (List.toArray (o0 :: o1 :: o2 :: o3 :: o4 :: o5 :: o6 :: o7 :: o8 :: o9 :: o10 :: o11 :: o12 :: o13 :: o14 :: o15 :: o16 :: o17 :: r)) Q S fuel (listed.setIfInBounds 17 true) (a.put o17.dst v) w) : wpAnyH P md (List.toArray (o0 :: o1 :: o2 :: o3 :: o4 :: o5 :: o6 :: o7 :: o8 :: o9 :: o10 :: o11 :: o12 :: o13 :: o14 :: o15 :: o16 :: o17 :: r)) Q S (fuel + 1) listed a w :=
  wpAnyH_take (i := 17) rfl hs hf hr hQ (Or.inl ⟨hw, hy⟩) hS h
theorem skipH17 {o0 o1 o2 o3 o4 o5 o6 o7 o8 o9 o10 o11 o12 o13 o14 o15 o16 o17 : Oper} {r : List Oper} (hs : Region.noSelect (List.toArray (o0 :: o1 :: o2 :: o3 :: o4 :: o5 :: o6 :: o7 :: o8 :: o9 :: o10 :: o11 :: o12 :: o13 :: o14 :: o15 :: o16 :: o17 :: r)) = true) (hf : Region.free md (List.toArray (o0 :: o1 :: o2 :: o3 :: o4 :: o5 :: o6 :: o7 :: o8 :: o9 :: o10 :: o11 :: o12 :: o13 :: o14 :: o15 :: o16 :: o17 :: r)) listed 17 = true) (hr : (Region.ready md (List.toArray (o0 :: o1 :: o2 :: o3 :: o4 :: o5 :: o6 :: o7 :: o8 :: o9 :: o10 :: o11 :: o12 :: o13 :: o14 :: o15 :: o16 :: o17 :: r)) listed).contains 17 = true)
    (hQ : ∀ c a w, Q (.panic c) (a.put o17.dst undef) w → Q (.panic c) a w) (hS : S w) (hw : Region.wanted o17 (yielded (List.toArray (o0 :: o1 :: o2 :: o3 :: o4 :: o5 :: o6 :: o7 :: o8 :: o9 :: o10 :: o11 :: o12 :: o13 :: o14 :: o15 :: o16 :: o17 :: r)) a.tmps) = false)
    (h : wpAnyH P md (List.toArray (o0 :: o1 :: o2 :: o3 :: o4 :: o5 :: o6 :: o7 :: o8 :: o9 :: o10 :: o11 :: o12 :: o13 :: o14 :: o15 :: o16 :: o17 :: r)) Q S fuel (listed.setIfInBounds 17 true) (a.put o17.dst undef) w) : wpAnyH P md (List.toArray (o0 :: o1 :: o2 :: o3 :: o4 :: o5 :: o6 :: o7 :: o8 :: o9 :: o10 :: o11 :: o12 :: o13 :: o14 :: o15 :: o16 :: o17 :: r)) Q S (fuel + 1) listed a w :=
  wpAnyH_take (i := 17) rfl hs hf hr hQ (Or.inr ⟨hw, rfl⟩) hS h
theorem takeH18 {o0 o1 o2 o3 o4 o5 o6 o7 o8 o9 o10 o11 o12 o13 o14 o15 o16 o17 o18 : Oper} {r : List Oper} {v : Value} (hs : Region.noSelect (List.toArray (o0 :: o1 :: o2 :: o3 :: o4 :: o5 :: o6 :: o7 :: o8 :: o9 :: o10 :: o11 :: o12 :: o13 :: o14 :: o15 :: o16 :: o17 :: o18 :: r)) = true) (hf : Region.free md (List.toArray (o0 :: o1 :: o2 :: o3 :: o4 :: o5 :: o6 :: o7 :: o8 :: o9 :: o10 :: o11 :: o12 :: o13 :: o14 :: o15 :: o16 :: o17 :: o18 :: r)) listed 18 = true) (hr : (Region.ready md (List.toArray (o0 :: o1 :: o2 :: o3 :: o4 :: o5 :: o6 :: o7 :: o8 :: o9 :: o10 :: o11 :: o12 :: o13 :: o14 :: o15 :: o16 :: o17 :: o18 :: r)) listed).contains 18 = true)
    (hQ : ∀ c a w, Q (.panic c) (a.put o18.dst v) w → Q (.panic c) a w) (hS : S w) (hw : Region.wanted o18 (yielded (List.toArray (o0 :: o1 :: o2 :: o3 :: o4 :: o5 :: o6 :: o7 :: o8 :: o9 :: o10 :: o11 :: o12 :: o13 :: o14 :: o15 :: o16 :: o17 :: o18 :: r)) a.tmps) = true) (hy : ∀ w, S w → (execOp a.eval o18).run P w = .ok (.value v) w)
    (h : wpAnyH P md (List.toArray (o0 :: o1 :: o2 :: o3 :: o4 :: o5 :: o6 :: o7 :: o8 :: o9 :: o10 :: o11 :: o12 :: o13 :: o14 :: o15 :: o16 :: o17 :: o18 :: r)) Q S fuel (listed.setIfInBounds 18 true) (a.put o18.dst v) w) : wpAnyH P md (List.toArray (o0 :: o1 :: o2 :: o3 :: o4 :: o5 :: o6 :: o7 :: o8 :: o9 :: o10 :: o11 :: o12 :: o13 :: o14 :: o15 :: o16 :: o17 :: o18 :: r)) Q S (fuel + 1) listed a w :=
  wpAnyH_take (i := 18) rfl hs hf hr hQ (Or.inl ⟨hw, hy⟩) hS h
theorem skipH18 {o0 o1 o2 o3 o4 o5 o6 o7 o8 o9 o10 o11 o12 o13 o14 o15 o16 o17 o18 : Oper} {r : List Oper} (hs : Region.noSelect (List.toArray (o0 :: o1 :: o2 :: o3 :: o4 :: o5 :: o6 :: o7 :: o8 :: o9 :: o10 :: o11 :: o12 :: o13 :: o14 :: o15 :: o16 :: o17 :: o18 :: r)) = true) (hf : Region.free md (List.toArray (o0 :: o1 :: o2 :: o3 :: o4 :: o5 :: o6 :: o7 :: o8 :: o9 :: o10 :: o11 :: o12 :: o13 :: o14 :: o15 :: o16 :: o17 :: o18 :: r)) listed 18 = true) (hr : (Region.ready md (List.toArray (o0 :: o1 :: o2 :: o3 :: o4 :: o5 :: o6 :: o7 :: o8 :: o9 :: o10 :: o11 :: o12 :: o13 :: o14 :: o15 :: o16 :: o17 :: o18 :: r)) listed).contains 18 = true)
    (hQ : ∀ c a w, Q (.panic c) (a.put o18.dst undef) w → Q (.panic c) a w) (hS : S w) (hw : Region.wanted o18 (yielded (List.toArray (o0 :: o1 :: o2 :: o3 :: o4 :: o5 :: o6 :: o7 :: o8 :: o9 :: o10 :: o11 :: o12 :: o13 :: o14 :: o15 :: o16 :: o17 :: o18 :: r)) a.tmps) = false)
    (h : wpAnyH P md (List.toArray (o0 :: o1 :: o2 :: o3 :: o4 :: o5 :: o6 :: o7 :: o8 :: o9 :: o10 :: o11 :: o12 :: o13 :: o14 :: o15 :: o16 :: o17 :: o18 :: r)) Q S fuel (listed.setIfInBounds 18 true) (a.put o18.dst undef) w) : wpAnyH P md (List.toArray (o0 :: o1 :: o2 :: o3 :: o4 :: o5 :: o6 :: o7 :: o8 :: o9 :: o10 :: o11 :: o12 :: o13 :: o14 :: o15 :: o16 :: o17 :: o18 :: r)) Q S (fuel + 1) listed a w :=
  wpAnyH_take (i := 18) rfl hs hf hr hQ (Or.inr ⟨hw, rfl⟩) hS h
theorem takeH19 {o0 o1 o2 o3 o4 o5 o6 o7 o8 o9 o10 o11 o12 o13 o14 o15 o16 o17 o18 o19 : Oper} {r : List Oper} {v : Value} (hs : Region.noSelect (List.toArray (o0 :: o1 :: o2 :: o3 :: o4 :: o5 :: o6 :: o7 :: o8 :: o9 :: o10 :: o11 :: o12 :: o13 :: o14 :: o15 :: o16 :: o17 :: o18 :: o19 :: r)) = true) (hf : Region.free md (List.toArray (o0 :: o1 :: o2 :: o3 :: o4 :: o5 :: o6 :: o7 :: o8 :: o9 :: o10 :: o11 :: o12 :: o13 :: o14 :: o15 :: o16 :: o17 :: o18 :: o19 :: r)) listed 19 = true) (hr : (Region.ready md (List.toArray (o0 :: o1 :: o2 :: o3 :: o4 :: o5 :: o6 :: o7 :: o8 :: o9 :: o10 :: o11 :: o12 :: o13 :: o14 :: o15 :: o16 :: o17 :: o18 :: o19 :: r)) listed).contains 19 = true)
    (hQ : ∀ c a w, Q (.panic c) (a.put o19.dst v) w → Q (.panic c) a w) (hS : S w) (hw : Region.wanted o19 (yielded (List.toArray (o0 :: o1 :: o2 :: o3 :: o4 :: o5 :: o6 :: o7 :: o8 :: o9 :: o10 :: o11 :: o12 :: o13 :: o14 :: o15 :: o16 :: o17 :: o18 :: o19 :: r)) a.tmps) = true) (hy : ∀ w, S w → (execOp a.eval o19).run P w = .ok (.value v) w)
    (h : wpAnyH P md (List.toArray (o0 :: o1 :: o2 :: o3 :: o4 :: o5 :: o6 :: o7 :: o8 :: o9 :: o10 :: o11 :: o12 :: o13 :: o14 :: o15 :: o16 :: o17 :: o18 :: o19 :: r)) Q S fuel (listed.setIfInBounds 19 true) (a.put o19.dst v) w) : wpAnyH P md (List.toArray (o0 :: o1 :: o2 :: o3 :: o4 :: o5 :: o6 :: o7 :: o8 :: o9 :: o10 :: o11 :: o12 :: o13 :: o14 :: o15 :: o16 :: o17 :: o18 :: o19 :: r)) Q S (fuel + 1) listed a w :=
  wpAnyH_take (i := 19) rfl hs hf hr hQ (Or.inl ⟨hw, hy⟩) hS h
theorem skipH19 {o0 o1 o2 o3 o4 o5 o6 o7 o8 o9 o10 o11 o12 o13 o14 o15 o16 o17 o18 o19 : Oper} {r : List Oper} (hs : Region.noSelect (List.toArray (o0 :: o1 :: o2 :: o3 :: o4 :: o5 :: o6 :: o7 :: o8 :: o9 :: o10 :: o11 :: o12 :: o13 :: o14 :: o15 :: o16 :: o17 :: o18 :: o19 :: r)) = true) (hf : Region.free md (List.toArray (o0 :: o1 :: o2 :: o3 :: o4 :: o5 :: o6 :: o7 :: o8 :: o9 :: o10 :: o11 :: o12 :: o13 :: o14 :: o15 :: o16 :: o17 :: o18 :: o19 :: r)) listed 19 = true) (hr : (Region.ready md (List.toArray (o0 :: o1 :: o2 :: o3 :: o4 :: o5 :: o6 :: o7 :: o8 :: o9 :: o10 :: o11 :: o12 :: o13 :: o14 :: o15 :: o16 :: o17 :: o18 :: o19 :: r)) listed).contains 19 = true)
    (hQ : ∀ c a w, Q (.panic c) (a.put o19.dst undef) w → Q (.panic c) a w) (hS : S w) (hw : Region.wanted o19 (yielded (List.toArray (o0 :: o1 :: o2 :: o3 :: o4 :: o5 :: o6 :: o7 :: o8 :: o9 :: o10 :: o11 :: o12 :: o13 :: o14 :: o15 :: o16 :: o17 :: o18 :: o19 :: r)) a.tmps) = false)
    (h : wpAnyH P md (List.toArray (o0 :: o1 :: o2 :: o3 :: o4 :: o5 :: o6 :: o7 :: o8 :: o9 :: o10 :: o11 :: o12 :: o13 :: o14 :: o15 :: o16 :: o17 :: o18 :: o19 :: r)) Q S fuel (listed.setIfInBounds 19 true) (a.put o19.dst undef) w) : wpAnyH P md (List.toArray (o0 :: o1 :: o2 :: o3 :: o4 :: o5 :: o6 :: o7 :: o8 :: o9 :: o10 :: o11 :: o12 :: o13 :: o14 :: o15 :: o16 :: o17 :: o18 :: o19 :: r)) Q S (fuel + 1) listed a w :=
  wpAnyH_take (i := 19) rfl hs hf hr hQ (Or.inr ⟨hw, rfl⟩) hS h
theorem takeH20 {o0 o1 o2 o3 o4 o5 o6 o7 o8 o9 o10 o11 o12 o13 o14 o15 o16 o17 o18 o19 o20 : Oper} {r : List Oper} {v : Value} (hs : Region.noSelect (List.toArray (o0 :: o1 :: o2 :: o3 :: o4 :: o5 :: o6 :: o7 :: o8 :: o9 :: o10 :: o11 :: o12 :: o13 :: o14 :: o15 :: o16 :: o17 :: o18 :: o19 :: o20 :: r)) = true) (hf : Region.free md (List.toArray (o0 :: o1 :: o2 :: o3 :: o4 :: o5 :: o6 :: o7 :: o8 :: o9 :: o10 :: o11 :: o12 :: o13 :: o14 :: o15 :: o16 :: o17 :: o18 :: o19 :: o20 :: r)) listed 20 = true) (hr : (Region.ready md (List.toArray (o0 :: o1 :: o2 :: o3 :: o4 :: o5 :: o6 :: o7 :: o8 :: o9 :: o10 :: o11 :: o12 :: o13 :: o14 :: o15 :: o16 :: o17 :: o18 :: o19 :: o20 :: r)) listed).contains 20 = true)
    (hQ : ∀ c a w, Q (.panic c) (a.put o20.dst v) w → Q (.panic c) a w) (hS : S w) (hw : Region.wanted o20 (yielded (List.toArray (o0 :: o1 :: o2 :: o3 :: o4 :: o5 :: o6 :: o7 :: o8 :: o9 :: o10 :: o11 :: o12 :: o13 :: o14 :: o15 :: o16 :: o17 :: o18 :: o19 :: o20 :: r)) a.tmps) = true) (hy : ∀ w, S w → (execOp a.eval o20).run P w = .ok (.value v) w)
    (h : wpAnyH P md (List.toArray (o0 :: o1 :: o2 :: o3 :: o4 :: o5 :: o6 :: o7 :: o8 :: o9 :: o10 :: o11 :: o12 :: o13 :: o14 :: o15 :: o16 :: o17 :: o18 :: o19 :: o20 :: r)) Q S fuel (listed.setIfInBounds 20 true) (a.put o20.dst v) w) : wpAnyH P md (List.toArray (o0 :: o1 :: o2 :: o3 :: o4 :: o5 :: o6 :: o7 :: o8 :: o9 :: o10 :: o11 :: o12 :: o13 :: o14 :: o15 :: o16 :: o17 :: o18 :: o19 :: o20 :: r)) Q S (fuel + 1) listed a w :=
  wpAnyH_take (i := 20) rfl hs hf hr hQ (Or.inl ⟨hw, hy⟩) hS h
theorem skipH20 {o0 o1 o2 o3 o4 o5 o6 o7 o8 o9 o10 o11 o12 o13 o14 o15 o16 o17 o18 o19 o20 : Oper} {r : List Oper} (hs : Region.noSelect (List.toArray (o0 :: o1 :: o2 :: o3 :: o4 :: o5 :: o6 :: o7 :: o8 :: o9 :: o10 :: o11 :: o12 :: o13 :: o14 :: o15 :: o16 :: o17 :: o18 :: o19 :: o20 :: r)) = true) (hf : Region.free md (List.toArray (o0 :: o1 :: o2 :: o3 :: o4 :: o5 :: o6 :: o7 :: o8 :: o9 :: o10 :: o11 :: o12 :: o13 :: o14 :: o15 :: o16 :: o17 :: o18 :: o19 :: o20 :: r)) listed 20 = true) (hr : (Region.ready md (List.toArray (o0 :: o1 :: o2 :: o3 :: o4 :: o5 :: o6 :: o7 :: o8 :: o9 :: o10 :: o11 :: o12 :: o13 :: o14 :: o15 :: o16 :: o17 :: o18 :: o19 :: o20 :: r)) listed).contains 20 = true)
    (hQ : ∀ c a w, Q (.panic c) (a.put o20.dst undef) w → Q (.panic c) a w) (hS : S w) (hw : Region.wanted o20 (yielded (List.toArray (o0 :: o1 :: o2 :: o3 :: o4 :: o5 :: o6 :: o7 :: o8 :: o9 :: o10 :: o11 :: o12 :: o13 :: o14 :: o15 :: o16 :: o17 :: o18 :: o19 :: o20 :: r)) a.tmps) = false)
    (h : wpAnyH P md (List.toArray (o0 :: o1 :: o2 :: o3 :: o4 :: o5 :: o6 :: o7 :: o8 :: o9 :: o10 :: o11 :: o12 :: o13 :: o14 :: o15 :: o16 :: o17 :: o18 :: o19 :: o20 :: r)) Q S fuel (listed.setIfInBounds 20 true) (a.put o20.dst undef) w) : wpAnyH P md (List.toArray (o0 :: o1 :: o2 :: o3 :: o4 :: o5 :: o6 :: o7 :: o8 :: o9 :: o10 :: o11 :: o12 :: o13 :: o14 :: o15 :: o16 :: o17 :: o18 :: o19 :: o20 :: r)) Q S (fuel + 1) listed a w :=
  wpAnyH_take (i := 20) rfl hs hf hr hQ (Or.inr ⟨hw, rfl⟩) hS h
theorem takeH21 {o0 o1 o2 o3 o4 o5 o6 o7 o8 o9 o10 o11 o12 o13 o14 o15 o16 o17 o18 o19 o20 o21 : Oper} {r : List Oper} {v : Value} (hs : Region.noSelect (List.toArray (o0 :: o1 :: o2 :: o3 :: o4 :: o5 :: o6 :: o7 :: o8 :: o9 :: o10 :: o11 :: o12 :: o13 :: o14 :: o15 :: o16 :: o17 :: o18 :: o19 :: o20 :: o21 :: r)) = true) (hf : Region.free md (List.toArray (o0 :: o1 :: o2 :: o3 :: o4 :: o5 :: o6 :: o7 :: o8 :: o9 :: o10 :: o11 :: o12 :: o13 :: o14 :: o15 :: o16 :: o17 :: o18 :: o19 :: o20 :: o21 :: r)) listed 21 = true) (hr : (Region.ready md (List.toArray (o0 :: o1 :: o2 :: o3 :: o4 :: o5 :: o6 :: o7 :: o8 :: o9 :: o10 :: o11 :: o12 :: o13 :: o14 :: o15 :: o16 :: o17 :: o18 :: o19 :: o20 :: o21 :: r)) listed).contains 21 = true)
    (hQ : ∀ c a w, Q (.panic c) (a.put o21.dst v) w → Q (.panic c) a w) (hS : S w) (hw : Region.wanted o21 (yielded (List.toArray (o0 :: o1 :: o2 :: o3 :: o4 :: o5 :: o6 :: o7 :: o8 :: o9 :: o10 :: o11 :: o12 :: o13 :: o14 :: o15 :: o16 :: o17 :: o18 :: o19 :: o20 :: o21 :: r)) a.tmps) = true) (hy : ∀ w, S w → (execOp a.eval o21).run P w = .ok (.value v) w)
    (h : wpAnyH P md (List.toArray (o0 :: o1 :: o2 :: o3 :: o4 :: o5 :: o6 :: o7 :: o8 :: o9 :: o10 :: o11 :: o12 :: o13 :: o14 :: o15 :: o16 :: o17 :: o18 :: o19 :: o20 :: o21 :: r)) Q S fuel (listed.setIfInBounds 21 true) (a.put o21.dst v) w) : wpAnyH P md (List.toArray (o0 :: o1 :: o2 :: o3 :: o4 :: o5 :: o6 :: o7 :: o8 :: o9 :: o10 :: o11 :: o12 :: o13 :: o14 :: o15 :: o16 :: o17 :: o18 :: o19 :: o20 :: o21 :: r)) Q S (fuel + 1) listed a w :=
  wpAnyH_take (i := 21) rfl hs hf hr hQ (Or.inl ⟨hw, hy⟩) hS h
theorem skipH21 {o0 o1 o2 o3 o4 o5 o6 o7 o8 o9 o10 o11 o12 o13 o14 o15 o16 o17 o18 o19 o20 o21 : Oper} {r : List Oper} (hs : Region.noSelect (List.toArray (o0 :: o1 :: o2 :: o3 :: o4 :: o5 :: o6 :: o7 :: o8 :: o9 :: o10 :: o11 :: o12 :: o13 :: o14 :: o15 :: o16 :: o17 :: o18 :: o19 :: o20 :: o21 :: r)) = true) (hf : Region.free md (List.toArray (o0 :: o1 :: o2 :: o3 :: o4 :: o5 :: o6 :: o7 :: o8 :: o9 :: o10 :: o11 :: o12 :: o13 :: o14 :: o15 :: o16 :: o17 :: o18 :: o19 :: o20 :: o21 :: r)) listed 21 = true) (hr : (Region.ready md (List.toArray (o0 :: o1 :: o2 :: o3 :: o4 :: o5 :: o6 :: o7 :: o8 :: o9 :: o10 :: o11 :: o12 :: o13 :: o14 :: o15 :: o16 :: o17 :: o18 :: o19 :: o20 :: o21 :: r)) listed).contains 21 = true)
    (hQ : ∀ c a w, Q (.panic c) (a.put o21.dst undef) w → Q (.panic c) a w) (hS : S w) (hw : Region.wanted o21 (yielded (List.toArray (o0 :: o1 :: o2 :: o3 :: o4 :: o5 :: o6 :: o7 :: o8 :: o9 :: o10 :: o11 :: o12 :: o13 :: o14 :: o15 :: o16 :: o17 :: o18 :: o19 :: o20 :: o21 :: r)) a.tmps) = false)
    (h : wpAnyH P md (List.toArray (o0 :: o1 :: o2 :: o3 :: o4 :: o5 :: o6 :: o7 :: o8 :: o9 :: o10 :: o11 :: o12 :: o13 :: o14 :: o15 :: o16 :: o17 :: o18 :: o19 :: o20 :: o21 :: r)) Q S fuel (listed.setIfInBounds 21 true) (a.put o21.dst undef) w) : wpAnyH P md (List.toArray (o0 :: o1 :: o2 :: o3 :: o4 :: o5 :: o6 :: o7 :: o8 :: o9 :: o10 :: o11 :: o12 :: o13 :: o14 :: o15 :: o16 :: o17 :: o18 :: o19 :: o20 :: o21 :: r)) Q S (fuel + 1) listed a w :=
  wpAnyH_take (i := 21) rfl hs hf hr hQ (Or.inr ⟨hw, rfl⟩) hS h
theorem takeH22 {o0 o1 o2 o3 o4 o5 o6 o7 o8 o9 o10 o11 o12 o13 o14 o15 o16 o17 o18 o19 o20 o21 o22 : Oper} {r : List Oper} {v : Value} (hs : Region.noSelect (List.toArray (o0 :: o1 :: o2 :: o3 :: o4 :: o5 :: o6 :: o7 :: o8 :: o9 :: o10 :: o11 :: o12 :: o13 :: o14 :: o15 :: o16 :: o17 :: o18 :: o19 :: o20 :: o21 :: o22 :: r)) = true) (hf : Region.free md (List.toArray (o0 :: o1 :: o2 :: o3 :: o4 :: o5 :: o6 :: o7 :: o8 :: o9 :: o10 :: o11 :: o12 :: o13 :: o14 :: o15 :: o16 :: o17 :: o18 :: o19 :: o20 :: o21 :: o22 :: r)) listed 22 = true) (hr : (Region.ready md (List.toArray (o0 :: o1 :: o2 :: o3 :: o4 :: o5 :: o6 :: o7 :: o8 :: o9 :: o10 :: o11 :: o12 :: o13 :: o14 :: o15 :: o16 :: o17 :: o18 :: o19 :: o20 :: o21 :: o22 :: r)) listed).contains 22 = true)
    (hQ : ∀ c a w, Q (.panic c) (a.put o22.dst v) w → Q (.panic c) a w) (hS : S w) (hw : Region.wanted o22 (yielded (List.toArray (o0 :: o1 :: o2 :: o3 :: o4 :: o5 :: o6 :: o7 :: o8 :: o9 :: o10 :: o11 :: o12 :: o13 :: o14 :: o15 :: o16 :: o17 :: o18 :: o19 :: o20 :: o21 :: o22 :: r)) a.tmps) = true) (hy : ∀ w, S w → (execOp a.eval o22).run P w = .ok (.value v) w)
    (h : wpAnyH P md (List.toArray (o0 :: o1 :: o2 :: o3 :: o4 :: o5 :: o6 :: o7 :: o8 :: o9 :: o10 :: o11 :: o12 :: o13 :: o14 :: o15 :: o16 :: o17 :: o18 :: o19 :: o20 :: o21 :: o22 :: r)) Q S fuel (listed.setIfInBounds 22 true) (a.put o22.dst v) w) : wpAnyH P md (List.toArray (o0 :: o1 :: o2 :: o3 :: o4 :: o5 :: o6 :: o7 :: o8 :: o9 :: o10 :: o11 :: o12 :: o13 :: o14 :: o15 :: o16 :: o17 :: o18 :: o19 :: o20 :: o21 :: o22 :: r)) Q S (fuel + 1) listed a w :=
  wpAnyH_take (i := 22) rfl hs hf hr hQ (Or.inl ⟨hw, hy⟩) hS h
theorem skipH22 {o0 o1 o2 o3 o4 o5 o6 o7 o8 o9 o10 o11 o12 o13 o14 o15 o16 o17 o18 o19 o20 o21 o22 : Oper} {r : List Oper} (hs : Region.noSelect (List.toArray (o0 :: o1 :: o2 :: o3 :: o4 :: o5 :: o6 :: o7 :: o8 :: o9 :: o10 :: o11 :: o12 :: o13 :: o14 :: o15 :: o16 :: o17 :: o18 :: o19 :: o20 :: o21 :: o22 :: r)) = true) (hf : Region.free md (List.toArray (o0 :: o1 :: o2 :: o3 :: o4 :: o5 :: o6 :: o7 :: o8 :: o9 :: o10 :: o11 :: o12 :: o13 :: o14 :: o15 :: o16 :: o17 :: o18 :: o19 :: o20 :: o21 :: o22 :: r)) listed 22 = true) (hr : (Region.ready md (List.toArray (o0 :: o1 :: o2 :: o3 :: o4 :: o5 :: o6 :: o7 :: o8 :: o9 :: o10 :: o11 :: o12 :: o13 :: o14 :: o15 :: o16 :: o17 :: o18 :: o19 :: o20 :: o21 :: o22 :: r)) listed).contains 22 = true)
    (hQ : ∀ c a w, Q (.panic c) (a.put o22.dst undef) w → Q (.panic c) a w) (hS : S w) (hw : Region.wanted o22 (yielded (List.toArray (o0 :: o1 :: o2 :: o3 :: o4 :: o5 :: o6 :: o7 :: o8 :: o9 :: o10 :: o11 :: o12 :: o13 :: o14 :: o15 :: o16 :: o17 :: o18 :: o19 :: o20 :: o21 :: o22 :: r)) a.tmps) = false)
    (h : wpAnyH P md (List.toArray (o0 :: o1 :: o2 :: o3 :: o4 :: o5 :: o6 :: o7 :: o8 :: o9 :: o10 :: o11 :: o12 :: o13 :: o14 :: o15 :: o16 :: o17 :: o18 :: o19 :: o20 :: o21 :: o22 :: r)) Q S fuel (listed.setIfInBounds 22 true) (a.put o22.dst undef) w) : wpAnyH P md (List.toArray (o0 :: o1 :: o2 :: o3 :: o4 :: o5 :: o6 :: o7 :: o8 :: o9 :: o10 :: o11 :: o12 :: o13 :: o14 :: o15 :: o16 :: o17 :: o18 :: o19 :: o20 :: o21 :: o22 :: r)) Q S (fuel + 1) listed a w :=
  wpAnyH_take (i := 22) rfl hs hf hr hQ (Or.inr ⟨hw, rfl⟩) hS h
theorem skipH23 {o0 o1 o2 o3 o4 o5 o6 o7 o8 o9 o10 o11 o12 o13 o14 o15 o16 o17 o18 o19 o20 o21 o22 o23 : Oper} {r : List Oper} (hs : Region.noSelect (List.toArray (o0 :: o1 :: o2 :: o3 :: o4 :: o5 :: o6 :: o7 :: o8 :: o9 :: o10 :: o11 :: o12 :: o13 :: o14 :: o15 :: o16 :: o17 :: o18 :: o19 :: o20 :: o21 :: o22 :: o23 :: r)) = true) (hf : Region.free md (List.toArray (o0 :: o1 :: o2 :: o3 :: o4 :: o5 :: o6 :: o7 :: o8 :: o9 :: o10 :: o11 :: o12 :: o13 :: o14 :: o15 :: o16 :: o17 :: o18 :: o19 :: o20 :: o21 :: o22 :: o23 :: r)) listed 23 = true) (hr : (Region.ready md (List.toArray (o0 :: o1 :: o2 :: o3 :: o4 :: o5 :: o6 :: o7 :: o8 :: o9 :: o10 :: o11 :: o12 :: o13 :: o14 :: o15 :: o16 :: o17 :: o18 :: o19 :: o20 :: o21 :: o22 :: o23 :: r)) listed).contains 23 = true)
    (hQ : ∀ c a w, Q (.panic c) (a.put o23.dst undef) w → Q (.panic c) a w) (hS : S w) (hw : Region.wanted o23 (yielded (List.toArray (o0 :: o1 :: o2 :: o3 :: o4 :: o5 :: o6 :: o7 :: o8 :: o9 :: o10 :: o11 :: o12 :: o13 :: o14 :: o15 :: o16 :: o17 :: o18 :: o19 :: o20 :: o21 :: o22 :: o23 :: r)) a.tmps) = false)
    (h : wpAnyH P md (List.toArray (o0 :: o1 :: o2 :: o3 :: o4 :: o5 :: o6 :: o7 :: o8 :: o9 :: o10 :: o11 :: o12 :: o13 :: o14 :: o15 :: o16 :: o17 :: o18 :: o19 :: o20 :: o21 :: o22 :: o23 :: r)) Q S fuel (listed.setIfInBounds 23 true) (a.put o23.dst undef) w) : wpAnyH P md (List.toArray (o0 :: o1 :: o2 :: o3 :: o4 :: o5 :: o6 :: o7 :: o8 :: o9 :: o10 :: o11 :: o12 :: o13 :: o14 :: o15 :: o16 :: o17 :: o18 :: o19 :: o20 :: o21 :: o22 :: o23 :: r)) Q S (fuel + 1) listed a w :=
  wpAnyH_take (i := 23) rfl hs hf hr hQ (Or.inr ⟨hw, rfl⟩) hS h
theorem callH23 {o0 o1 o2 o3 o4 o5 o6 o7 o8 o9 o10 o11 o12 o13 o14 o15 o16 o17 o18 o19 o20 o21 o22 o23 : Oper} {r : List Oper} (hr : Region.ready md (List.toArray (o0 :: o1 :: o2 :: o3 :: o4 :: o5 :: o6 :: o7 :: o8 :: o9 :: o10 :: o11 :: o12 :: o13 :: o14 :: o15 :: o16 :: o17 :: o18 :: o19 :: o20 :: o21 :: o22 :: o23 :: r)) listed = [23])
    (h : ∀ K' : Act → World → Prop, Shut (∀ a w, S w → (S w → wpAnyH P md (List.toArray (o0 :: o1 :: o2 :: o3 :: o4 :: o5 :: o6 :: o7 :: o8 :: o9 :: o10 :: o11 :: o12 :: o13 :: o14 :: o15 :: o16 :: o17 :: o18 :: o19 :: o20 :: o21 :: o22 :: o23 :: r)) Q S fuel (listed.setIfInBounds 23 true) a w) → K' a w) → if Region.wanted o23 (yielded (List.toArray (o0 :: o1 :: o2 :: o3 :: o4 :: o5 :: o6 :: o7 :: o8 :: o9 :: o10 :: o11 :: o12 :: o13 :: o14 :: o15 :: o16 :: o17 :: o18 :: o19 :: o20 :: o21 :: o22 :: o23 :: r)) a.tmps) = true then Oper.wp P o23 a w K' Q else K' (a.put o23.dst undef) w) :
    wpAnyH P md (List.toArray (o0 :: o1 :: o2 :: o3 :: o4 :: o5 :: o6 :: o7 :: o8 :: o9 :: o10 :: o11 :: o12 :: o13 :: o14 :: o15 :: o16 :: o17 :: o18 :: o19 :: o20 :: o21 :: o22 :: o23 :: r)) Q S (fuel + 1) listed a w :=
  wpAnyH_ready (rs := [23]) hr (by simp) (AllReadyH.cons rfl h AllReadyH.nil)
theorem takeH24 {o0 o1 o2 o3 o4 o5 o6 o7 o8 o9 o10 o11 o12 o13 o14 o15 o16 o17 o18 o19 o20 o21 o22 o23 o24 : Oper} {r : List Oper} {v : Value} (hs : Region.noSelect (List.toArray (o0 :: o1 :: o2 :: o3 :: o4 :: o5 :: o6 :: o7 :: o8 :: o9 :: o10 :: o11 :: o12 :: o13 :: o14 :: o15 :: o16 :: o17 :: o18 :: o19 :: o20 :: o21 :: o22 :: o23 :: o24 :: r)) = true) (hf : Region.free md (List.toArray (o0 :: o1 :: o2 :: o3 :: o4 :: o5 :: o6 :: o7 :: o8 :: o9 :: o10 :: o11 :: o12 :: o13 :: o14 :: o15 :: o16 :: o17 :: o18 :: o19 :: o20 :: o21 :: o22 :: o23 :: o24 :: r)) listed 24 = true) (hr : (Region.ready md (List.toArray (o0 :: o1 :: o2 :: o3 :: o4 :: o5 :: o6 :: o7 :: o8 :: o9 :: o10 :: o11 :: o12 :: o13 :: o14 :: o15 :: o16 :: o17 :: o18 :: o19 :: o20 :: o21 :: o22 :: o23 :: o24 :: r)) listed).contains 24 = true)
    (hQ : ∀ c a w, Q (.panic c) (a.put o24.dst v) w → Q (.panic c) a w) (hS : S w) (hw : Region.wanted o24 (yielded (List.toArray (o0 :: o1 :: o2 :: o3 :: o4 :: o5 :: o6 :: o7 :: o8 :: o9 :: o10 :: o11 :: o12 :: o13 :: o14 :: o15 :: o16 :: o17 :: o18 :: o19 :: o20 :: o21 :: o22 :: o23 :: o24 :: r)) a.tmps) = true) (hy : ∀ w, S w → (execOp a.eval o24).run P w = .ok (.value v) w)
    (h : wpAnyH P md (List.toArray (o0 :: o1 :: o2 :: o3 :: o4 :: o5 :: o6 :: o7 :: o8 :: o9 :: o10 :: o11 :: o12 :: o13 :: o14 :: o15 :: o16 :: o17 :: o18 :: o19 :: o20 :: o21 :: o22 :: o23 :: o24 :: r)) Q S fuel (listed.setIfInBounds 24 true) (a.put o24.dst v) w) : wpAnyH P md (List.toArray (o0 :: o1 :: o2 :: o3 :: o4 :: o5 :: o6 :: o7 :: o8 :: o9 :: o10 :: o11 :: o12 :: o13 :: o14 :: o15 :: o16 :: o17 :: o18 :: o19 :: o20 :: o21 :: o22 :: o23 :: o24 :: r)) Q S (fuel + 1) listed a w :=
  wpAnyH_take (i := 24) rfl hs hf hr hQ (Or.inl ⟨hw, hy⟩) hS h
theorem skipH24 {o0 o1 o2 o3 o4 o5 o6 o7 o8 o9 o10 o11 o12 o13 o14 o15 o16 o17 o18 o19 o20 o21 o22 o23 o24 : Oper} {r : List Oper} (hs : Region.noSelect (List.toArray (o0 :: o1 :: o2 :: o3 :: o4 :: o5 :: o6 :: o7 :: o8 :: o9 :: o10 :: o11 :: o12 :: o13 :: o14 :: o15 :: o16 :: o17 :: o18 :: o19 :: o20 :: o21 :: o22 :: o23 :: o24 :: r)) = true) (hf : Region.free md (List.toArray (o0 :: o1 :: o2 :: o3 :: o4 :: o5 :: o6 :: o7 :: o8 :: o9 :: o10 :: o11 :: o12 :: o13 :: o14 :: o15 :: o16 :: o17 :: o18 :: o19 :: o20 :: o21 :: o22 :: o23 :: o24 :: r)) listed 24 = true) (hr : (Region.ready md (List.toArray (o0 :: o1 :: o2 :: o3 :: o4 :: o5 :: o6 :: o7 :: o8 :: o9 :: o10 :: o11 :: o12 :: o13 :: o14 :: o15 :: o16 :: o17 :: o18 :: o19 :: o20 :: o21 :: o22 :: o23 :: o24 :: r)) listed).contains 24 = true)
    (hQ : ∀ c a w, Q (.panic c) (a.put o24.dst undef) w → Q (.panic c) a w) (hS : S w) (hw : Region.wanted o24 (yielded (List.toArray (o0 :: o1 :: o2 :: o3 :: o4 :: o5 :: o6 :: o7 :: o8 :: o9 :: o10 :: o11 :: o12 :: o13 :: o14 :: o15 :: o16 :: o17 :: o18 :: o19 :: o20 :: o21 :: o22 :: o23 :: o24 :: r)) a.tmps) = false)
    (h : wpAnyH P md (List.toArray (o0 :: o1 :: o2 :: o3 :: o4 :: o5 :: o6 :: o7 :: o8 :: o9 :: o10 :: o11 :: o12 :: o13 :: o14 :: o15 :: o16 :: o17 :: o18 :: o19 :: o20 :: o21 :: o22 :: o23 :: o24 :: r)) Q S fuel (listed.setIfInBounds 24 true) (a.put o24.dst undef) w) : wpAnyH P md (List.toArray (o0 :: o1 :: o2 :: o3 :: o4 :: o5 :: o6 :: o7 :: o8 :: o9 :: o10 :: o11 :: o12 :: o13 :: o14 :: o15 :: o16 :: o17 :: o18 :: o19 :: o20 :: o21 :: o22 :: o23 :: o24 :: r)) Q S (fuel + 1) listed a w :=
  wpAnyH_take (i := 24) rfl hs hf hr hQ (Or.inr ⟨hw, rfl⟩) hS h
theorem takeH25 {o0 o1 o2 o3 o4 o5 o6 o7 o8 o9 o10 o11 o12 o13 o14 o15 o16 o17 o18 o19 o20 o21 o22 o23 o24 o25 : Oper} {r : List Oper} {v : Value} (hs : Region.noSelect (List.toArray (o0 :: o1 :: o2 :: o3 :: o4 :: o5 :: o6 :: o7 :: o8 :: o9 :: o10 :: o11 :: o12 :: o13 :: o14 :: o15 :: o16 :: o17 :: o18 :: o19 :: o20 :: o21 :: o22 :: o23 :: o24 :: o25 :: r)) = true) (hf : Region.free md (List.toArray (o0 :: o1 :: o2 :: o3 :: o4 :: o5 :: o6 :: o7 :: o8 :: o9 :: o10 :: o11 :: o12 :: o13 :: o14 :: o15 :: o16 :: o17 :: o18 :: o19 :: o20 :: o21 :: o22 :: o23 :: o24 :: o25 :: r)) listed 25 = true) (hr : (Region.ready md (List.toArray (o0 :: o1 :: o2 :: o3 :: o4 :: o5 :: o6 :: o7 :: o8 :: o9 :: o10 :: o11 :: o12 :: o13 :: o14 :: o15 :: o16 :: o17 :: o18 :: o19 :: o20 :: o21 :: o22 :: o23 :: o24 :: o25 :: r)) listed).contains 25 = true)
    (hQ : ∀ c a w, Q (.panic c) (a.put o25.dst v) w → Q (.panic c) a w) (hS : S w) (hw : Region.wanted o25 (yielded (List.toArray (o0 :: o1 :: o2 :: o3 :: o4 :: o5 :: o6 :: o7 :: o8 :: o9 :: o10 :: o11 :: o12 :: o13 :: o14 :: o15 :: o16 :: o17 :: o18 :: o19 :: o20 :: o21 :: o22 :: o23 :: o24 :: o25 :: r)) a.tmps) = true) (hy : ∀ w, S w → (execOp a.eval o25).run P w = .ok (.value v) w)
    (h : wpAnyH P md (List.toArray (o0 :: o1 :: o2 :: o3 :: o4 :: o5 :: o6 :: o7 :: o8 :: o9 :: o10 :: o11 :: o12 :: o13 :: o14 :: o15 :: o16 :: o17 :: o18 :: o19 :: o20 :: o21 :: o22 :: o23 :: o24 :: o25 :: r)) Q S fuel (listed.setIfInBounds 25 true) (a.put o25.dst v) w) : wpAnyH P md (List.toArray (o0 :: o1 :: o2 :: o3 :: o4 :: o5 :: o6 :: o7 :: o8 :: o9 :: o10 :: o11 :: o12 :: o13 :: o14 :: o15 :: o16 :: o17 :: o18 :: o19 :: o20 :: o21 :: o22 :: o23 :: o24 :: o25 :: r)) Q S (fuel + 1) listed a w :=
  wpAnyH_take (i := 25) rfl hs hf hr hQ (Or.inl ⟨hw, hy⟩) hS h
theorem skipH25 {o0 o1 o2 o3 o4 o5 o6 o7 o8 o9 o10 o11 o12 o13 o14 o15 o16 o17 o18 o19 o20 o21 o22 o23 o24 o25 : Oper} {r : List Oper} (hs : Region.noSelect (List.toArray (o0 :: o1 :: o2 :: o3 :: o4 :: o5 :: o6 :: o7 :: o8 :: o9 :: o10 :: o11 :: o12 :: o13 :: o14 :: o15 :: o16 :: o17 :: o18 :: o19 :: o20 :: o21 :: o22 :: o23 :: o24 :: o25 :: r)) = true) (hf : Region.free md (List.toArray (o0 :: o1 :: o2 :: o3 :: o4 :: o5 :: o6 :: o7 :: o8 :: o9 :: o10 :: o11 :: o12 :: o13 :: o14 :: o15 :: o16 :: o17 :: o18 :: o19 :: o20 :: o21 :: o22 :: o23 :: o24 :: o25 :: r)) listed 25 = true) (hr : (Region.ready md (List.toArray (o0 :: o1 :: o2 :: o3 :: o4 :: o5 :: o6 :: o7 :: o8 :: o9 :: o10 :: o11 :: o12 :: o13 :: o14 :: o15 :: o16 :: o17 :: o18 :: o19 :: o20 :: o21 :: o22 :: o23 :: o24 :: o25 :: r)) listed).contains 25 = true)
    (hQ : ∀ c a w, Q (.panic c) (a.put o25.dst undef) w → Q (.panic c) a w) (hS : S w) (hw : Region.wanted o25 (yielded (List.toArray (o0 :: o1 :: o2 :: o3 :: o4 :: o5 :: o6 :: o7 :: o8 :: o9 :: o10 :: o11 :: o12 :: o13 :: o14 :: o15 :: o16 :: o17 :: o18 :: o19 :: o20 :: o21 :: o22 :: o23 :: o24 :: o25 :: r)) a.tmps) = false)
    (h : wpAnyH P md (List.toArray (o0 :: o1 :: o2 :: o3 :: o4 :: o5 :: o6 :: o7 :: o8 :: o9 :: o10 :: o11 :: o12 :: o13 :: o14 :: o15 :: o16 :: o17 :: o18 :: o19 :: o20 :: o21 :: o22 :: o23 :: o24 :: o25 :: r)) Q S fuel (listed.setIfInBounds 25 true) (a.put o25.dst undef) w) : wpAnyH P md (List.toArray (o0 :: o1 :: o2 :: o3 :: o4 :: o5 :: o6 :: o7 :: o8 :: o9 :: o10 :: o11 :: o12 :: o13 :: o14 :: o15 :: o16 :: o17 :: o18 :: o19 :: o20 :: o21 :: o22 :: o23 :: o24 :: o25 :: r)) Q S (fuel + 1) listed a w :=
  wpAnyH_take (i := 25) rfl hs hf hr hQ (Or.inr ⟨hw, rfl⟩) hS h
theorem takeH26 {o0 o1 o2 o3 o4 o5 o6 o7 o8 o9 o10 o11 o12 o13 o14 o15 o16 o17 o18 o19 o20 o21 o22 o23 o24 o25 o26 : Oper} {r : List Oper} {v : Value} (hs : Region.noSelect (List.toArray (o0 :: o1 :: o2 :: o3 :: o4 :: o5 :: o6 :: o7 :: o8 :: o9 :: o10 :: o11 :: o12 :: o13 :: o14 :: o15 :: o16 :: o17 :: o18 :: o19 :: o20 :: o21 :: o22 :: o23 :: o24 :: o25 :: o26 :: r)) = true) (hf : Region.free md (List.toArray (o0 :: o1 :: o2 :: o3 :: o4 :: o5 :: o6 :: o7 :: o8 :: o9 :: o10 :: o11 :: o12 :: o13 :: o14 :: o15 :: o16 :: o17 :: o18 :: o19 :: o20 :: o21 :: o22 :: o23 :: o24 :: o25 :: o26 :: r)) listed 26 = true) (hr : (Region.ready md (List.toArray (o0 :: o1 :: o2 :: o3 :: o4 :: o5 :: o6 :: o7 :: o8 :: o9 :: o10 :: o11 :: o12 :: o13 :: o14 :: o15 :: o16 :: o17 :: o18 :: o19 :: o20 :: o21 :: o22 :: o23 :: o24 :: o25 :: o26 :: r)) listed).contains 26 = true)
    (hQ : ∀ c a w, Q (.panic c) (a.put o26.dst v) w → Q (.panic c) a w) (hS : S w) (hw : Region.wanted o26 (yielded (List.toArray (o0 :: o1 :: o2 :: o3 :: o4 :: o5 :: o6 :: o7 :: o8 :: o9 :: o10 :: o11 :: o12 :: o13 :: o14 :: o15 :: o16 :: o17 :: o18 :: o19 :: o20 :: o21 :: o22 :: o23 :: o24 :: o25 :: o26 :: r)) a.tmps) = true) (hy : ∀ w, S w → (execOp a.eval o26).run P w = .ok (.value v) w)
    (h : wpAnyH P md (List.toArray (o0 :: o1 :: o2 :: o3 :: o4 :: o5 :: o6 :: o7 :: o8 :: o9 :: o10 :: o11 :: o12 :: o13 :: o14 :: o15 :: o16 :: o17 :: o18 :: o19 :: o20 :: o21 :: o22 :: o23 :: o24 :: o25 :: o26 :: r)) Q S fuel (listed.setIfInBounds 26 true) (a.put o26.dst v) w) : wpAnyH P md (List.toArray (o0 :: o1 :: o2 :: o3 :: o4 :: o5 :: o6 :: o7 :: o8 :: o9 :: o10 :: o11 :: o12 :: o13 :: o14 :: o15 :: o16 :: o17 :: o18 :: o19 :: o20 :: o21 :: o22 :: o23 :: o24 :: o25 :: o26 :: r)) Q S (fuel + 1) listed a w :=
  wpAnyH_take (i := 26) rfl hs hf hr hQ (Or.inl ⟨hw, hy⟩) hS h
end
end Go.Proofs.YtjjaolndencplaaGreat
namespace Go.Proofs.YtjjaolndencplaaGreat
open Go.RowKit

theorem twoH_1_3 {P : Program} {Q : Exit → Act → World → Prop} {md : Region.Mode} {S : World → Prop} {fuel : Nat} {listed : Array Bool} {a : Act} {w : World} {o0 o1 o2 o3 : Oper} {r : List Oper} (hr : Region.ready md (List.toArray (o0 :: o1 :: o2 :: o3 :: r)) listed = [1, 3])
    (h1 : ∀ K' : Act → World → Prop, Shut (∀ a w, S w → (S w → wpAnyH P md (List.toArray (o0 :: o1 :: o2 :: o3 :: r)) Q S fuel (listed.setIfInBounds 1 true) a w) → K' a w) → if Region.wanted o1 (yielded (List.toArray (o0 :: o1 :: o2 :: o3 :: r)) a.tmps) = true then Oper.wp P o1 a w K' Q else K' (a.put o1.dst undef) w) (h2 : ∀ K' : Act → World → Prop, Shut (∀ a w, S w → (S w → wpAnyH P md (List.toArray (o0 :: o1 :: o2 :: o3 :: r)) Q S fuel (listed.setIfInBounds 3 true) a w) → K' a w) → if Region.wanted o3 (yielded (List.toArray (o0 :: o1 :: o2 :: o3 :: r)) a.tmps) = true then Oper.wp P o3 a w K' Q else K' (a.put o3.dst undef) w) : wpAnyH P md (List.toArray (o0 :: o1 :: o2 :: o3 :: r)) Q S (fuel + 1) listed a w :=
  wpAnyH_ready (rs := [1, 3]) hr (by simp) (AllReadyH.cons rfl h1 (AllReadyH.cons rfl h2 AllReadyH.nil))
theorem twoH_1_4 {P : Program} {Q : Exit → Act → World → Prop} {md : Region.Mode} {S : World → Prop} {fuel : Nat} {listed : Array Bool} {a : Act} {w : World} {o0 o1 o2 o3 o4 : Oper} {r : List Oper} (hr : Region.ready md (List.toArray (o0 :: o1 :: o2 :: o3 :: o4 :: r)) listed = [1, 4])
    (h1 : ∀ K' : Act → World → Prop, Shut (∀ a w, S w → (S w → wpAnyH P md (List.toArray (o0 :: o1 :: o2 :: o3 :: o4 :: r)) Q S fuel (listed.setIfInBounds 1 true) a w) → K' a w) → if Region.wanted o1 (yielded (List.toArray (o0 :: o1 :: o2 :: o3 :: o4 :: r)) a.tmps) = true then Oper.wp P o1 a w K' Q else K' (a.put o1.dst undef) w) (h2 : ∀ K' : Act → World → Prop, Shut (∀ a w, S w → (S w → wpAnyH P md (List.toArray (o0 :: o1 :: o2 :: o3 :: o4 :: r)) Q S fuel (listed.setIfInBounds 4 true) a w) → K' a w) → if Region.wanted o4 (yielded (List.toArray (o0 :: o1 :: o2 :: o3 :: o4 :: r)) a.tmps) = true then Oper.wp P o4 a w K' Q else K' (a.put o4.dst undef) w) : wpAnyH P md (List.toArray (o0 :: o1 :: o2 :: o3 :: o4 :: r)) Q S (fuel + 1) listed a w :=
  wpAnyH_ready (rs := [1, 4]) hr (by simp) (AllReadyH.cons rfl h1 (AllReadyH.cons rfl h2 AllReadyH.nil))
theorem apart_grow2 {u v x : Value} {H : Nat} (h : Apart u x) (hat : ∀ b, v.ownBlock = some b → u.ownBlock = some b ∨ H ≤ b) (hx : ∀ b, x.ownBlock = some b → b < H) : Apart v x := by
  unfold Apart
  cases e : v.ownBlock with
  | none => exact .inl rfl
  | some b =>
    right
    intro e2
    rcases hat b e with h1 | h1
    · exact apart_not h h1 e2.symm
    · have := hx b e2.symm; omega
theorem OPar.oldA {w : World} {lo : Nat} {s0 s1 s2 : Value} {g : ParD} (h : OPar w lo s0 s1 s2 g) : ∀ b, (s0.ownBlock = some b ∨ s1.ownBlock = some b ∨ s2.ownBlock = some b) → lo ≤ b := by
  obtain ⟨cs, ⟨k0, k1, k2⟩, k3, k4⟩ := h
  rintro b (h | h | h)
  · exact (k0.lt b h).1
  · exact (World.ownsRow.lt k1 b h).1
  · exact (k3.lt b h).1
theorem OPar.ofArn {S : Nat → Prop} {W w : World} {lo : Nat} {s0 s1 u : Value} {z : ArD} {ys : List Int} (h : OArn W lo s0 s1 z) (hlo : lo ≤ W.heap.size) (hc : Chg S W w) (hS : ∀ b, S b → b < lo) (hu : OI 2 w W.heap.size u ys) : OPar w lo s0 s1 u (z.1, z.2, ys) := by
  obtain ⟨cs, ha, hd⟩ := h
  obtain ⟨h0, h1, h2⟩ := ha
  refine ⟨cs, OAr.chg ⟨h0, h1, h2⟩ hc hS, hu.more hlo, Dis.cons (Dis.cons hd.tail fun i hi => ?_) fun i hi => ?_⟩
  · exact (apart_sep (fun b hb => (h2.lt i hi b hb).2) (fun b hb => (hu.lt b hb).1)).symm
  · cases i with
    | zero => exact apart_sep (fun b hb => (h0.lt b hb).2) (fun b hb => (hu.lt b hb).1)
    | succ j => exact hd.head (i := j) (by simpa using hi)
theorem OPar.put0 {w w' : World} {lo : Nat} {s0 s1 u t0 : Value} {g : ParD} {xs : List Int} (h : OPar w lo s0 s1 u g) (hc : Chg (fun b => s0.ownBlock = some b) w w') (h0 : OI 2 w' lo t0 xs)
    (hat : ∀ b, t0.ownBlock = some b → s0.ownBlock = some b ∨ w.heap.size ≤ b) : OPar w' lo t0 s1 u (xs, g.2.1, g.2.2) := by
  obtain ⟨cs, ⟨k0, k1, k2⟩, k3, hd⟩ := h
  have d0u : Apart s0 u := hd 0 1 (by simp) (by simp) (by omega)
  have d0c : ∀ i, i < cs.length → Apart s0 (gv cs i) := fun i hi => hd.skip.head hi
  refine ⟨cs, ⟨h0, row_chg k1 hc (fun b hb hs => own_ne k0 k1 (by decide) b hs hb), fun i hi => (k2 i hi).chg hc (fun b hb hs => apart_not (d0c i hi) hs hb)⟩, k3.chg hc (fun b hb hs => apart_not d0u hs hb), Dis.cons hd.tail fun i hi => ?_⟩
  cases i with
  | zero => exact apart_grow2 d0u hat (fun b hb => (k3.lt b hb).2)
  | succ j => exact apart_grow2 (d0c j (by simpa using hi)) hat (fun b hb => (k2.lt j (by simpa using hi) b hb).2)
theorem wp_pushU {o : Oper} {a : Act} {K : Act → World → Prop} {Q : Exit → Act → World → Prop} (s x : Operand)
    (ho : o.op = .call { callee := .builtin .append, args := #[s, x], argTypes := #[28, 28] })
    (w : World) (lo : Nat) (s0 s1 u : Value) (g : ParD) (hs : a.eval s = s1) (hx : a.eval x = .slice (some ⟨w.heap.size, 0, none⟩) 1 1)
    (hlo : lo ≤ w.heap.size) (hown : OPar w lo s0 s1 u g) (hn : g.2.1.length ≤ 4194304)
    (h : ∀ t1 w', OArn w' lo s0 t1 (g.1, g.2.1 ++ [g.2.2]) → Below lo w w' → Chg (fun b => s1.ownBlock = some b) w w' → (∀ b, t1.ownBlock = some b → s1.ownBlock = some b ∨ w.heap.size ≤ b) → K (a.put o.dst t1) w') : o.wp Tryz.prog a (w.alloc (.cells #[u] 27)) K Q := by
  obtain ⟨i1, hi1, hy0, hy1, hy2⟩ := info_parts infoII
  obtain ⟨cs, ⟨h0, h1, h2⟩, hu, hd⟩ := hown
  obtain ⟨Au, cu, rfl⟩ := hu.form
  have hba : Below w.heap.size w (w.alloc (.cells #[.slice Au g.2.2.length cu] 27)) := below_alloc (Nat.le_refl _) (Below.refl _ _)
  have k0 := h0.below hba
  have k1 := row_below h1 hba
  have k2 := h2.below hba
  have ku := hu.below hba
  have d0u : Apart s0 (.slice Au g.2.2.length cu) := hd 0 1 (by simp) (by simp) (by omega)
  have d0c : ∀ i, i < cs.length → Apart s0 (gv cs i) := fun i hi => hd.skip.head hi
  have duc : ∀ i, i < cs.length → Apart (.slice Au g.2.2.length cu) (gv cs i) := fun i hi => hd.tail.head hi
  have hsz : lo ≤ (w.alloc (.cells #[.slice Au g.2.2.length cu] 27)).heap.size := by simp; omega
  refine wp_append_lies _ s x 28 ho lo 27 i1 (.slice none 0 0) 1 24 Tryz.underlying28 hi1 hy0 hy1 hy2 rfl (by decide) s1 g.2.1.length cs hs k1 ⟨w.heap.size, 0, none⟩ 1 1 [.slice Au g.2.2.length cu] hx rfl
    (push_news ((Box.new w 27 #[.slice Au g.2.2.length cu]).cell 0)) (by simp [Value.oneCell']) (by decide) (by unfold maxLen; omega) (by omega) hsz _ rfl ?_
  intro gg cap w' r hg hat hlt
  have hc := Chg.of_grown hg
  have hc' : Chg (fun b => s1.ownBlock = some b) w w' := ((Chg.refl (fun _ => False) w).alloc _).trans hc (fun _ h => h.elim) (fun _ h => h)
  have n0 := k0.chg hc (fun b hb hs => own_ne k0 k1 (by decide) b hb hs)
  have n2 : OL 2 w' lo cs (gl g.2.1) := fun i hi => (k2 i hi).chg hc (fun b hb hs => own_ne (k2 i hi) k1 (by decide) b hb hs)
  have nu := ku.chg hc (fun b hb hs => own_ne ku k1 (by decide) b hb hs)
  refine h _ w' ⟨cs ++ [.slice Au g.2.2.length cu], ⟨n0, ?_, n2.app nu (by have := row_len k1; omega)⟩, ?_⟩ ((hba.mono hlo).trans (hc.below hsz (fun b hb => (World.ownsRow.lt k1 b hb).1))) hc' ?_
  · simpa using r
  · refine Dis.cons (hd.tail.tail.app (fun i hi => (duc i hi).symm)) (fun i hi => ?_)
    rw [List.length_append, List.length_singleton] at hi
    by_cases e : i < cs.length
    · rw [gv_app_lt e]; exact d0c i e
    · obtain rfl : i = cs.length := by omega
      rw [gv_app_eq]
      exact d0u
  · intro b hb
    simp [Value.ownBlock] at hb
    subst hb
    rcases hat with h | h
    · exact .inl h
    · right; simp at h; omega
theorem wpList_pushU {ops : Array Oper} {rest : List Oper} {o : Oper} {a : Act} {Q : Exit → Act → World → Prop} (hgd : o.guard = none) (s x : Operand)
    (ho : o.op = .call { callee := .builtin .append, args := #[s, x], argTypes := #[28, 28] })
    (w : World) (lo : Nat) (s0 s1 u : Value) (g : ParD) (hs : a.eval s = s1) (hx : a.eval x = .slice (some ⟨w.heap.size, 0, none⟩) 1 1)
    (hlo : lo ≤ w.heap.size) (hown : OPar w lo s0 s1 u g) (hn : g.2.1.length ≤ 4194304)
    (h : ∀ t1 w', OArn w' lo s0 t1 (g.1, g.2.1 ++ [g.2.2]) → Below lo w w' → Chg (fun b => s1.ownBlock = some b) w w' → (∀ b, t1.ownBlock = some b → s1.ownBlock = some b ∨ w.heap.size ≤ b) → wpList Tryz.prog ops Q rest (a.put o.dst t1) w') : wpList Tryz.prog ops Q (o :: rest) a (w.alloc (.cells #[u] 27)) :=
  wpList_plain hgd fun _ hK => wp_pushU s x ho w lo s0 s1 u g hs hx hlo hown hn fun t1 w' h1 h2 h3 h4 => hK _ _ (h t1 w' h1 h2 h3 h4)

/-- an arena by dice, as far as vertex k -/
def arUp (n : Int) (z : ArD) (k : Nat) : Prop := z.1.length = k ∧ z.2.length = k ∧ ∀ v, v < k → (0 ≤ gi z.1 v ∧ gi z.1 v ≤ 1) ∧ 1 ≤ (gl z.2 v).length ∧ setB (gl z.2 v) n = true
theorem arUp_zero (n : Int) : arUp n ([], []) 0 := ⟨rfl, rfl, fun v hv => absurd hv (by omega)⟩
theorem arUp_succ {n x : Int} {z : ArD} {k : Nat} {ys : List Int} (h : arUp n z k) (hx : 0 ≤ x ∧ x < 2) (hy : 1 ≤ ys.length) (hs : setB ys n = true) : arUp n (z.1 ++ [x], z.2 ++ [ys]) (k + 1) := by
  obtain ⟨h1, h2, h3⟩ := h
  refine ⟨by rw [List.length_append, h1]; rfl, by rw [List.length_append, h2]; rfl, fun v hv => ?_⟩
  by_cases e : v < k
  · show (0 ≤ gi (z.1 ++ [x]) v ∧ gi (z.1 ++ [x]) v ≤ 1) ∧ 1 ≤ (gl (z.2 ++ [ys]) v).length ∧ setB (gl (z.2 ++ [ys]) v) n = true
    rw [gi_app_lt (by omega)]
    rw [show gl (z.2 ++ [ys]) v = gl z.2 v by simp [gl, List.getElem?_append_left (show v < z.2.length by omega)]]
    exact h3 v e
  · obtain rfl : v = k := by omega
    show (0 ≤ gi (z.1 ++ [x]) v ∧ gi (z.1 ++ [x]) v ≤ 1) ∧ 1 ≤ (gl (z.2 ++ [ys]) v).length ∧ setB (gl (z.2 ++ [ys]) v) n = true
    rw [show gi (z.1 ++ [x]) v = x by rw [← h1]; exact gi_app_eq]
    rw [show gl (z.2 ++ [ys]) v = ys by rw [← h2]; simp [gl]]
    exact ⟨⟨hx.1, by omega⟩, hy, hs⟩
theorem set_short {xs : List Int} {n : Nat} (h : setB xs (n : Int) = true) : xs.length ≤ n := by have := set_len h (by omega); omega
theorem arUp_ok {n : Nat} {z : ArD} (h : arUp (n : Int) z n) (h1 : 1 ≤ n) (h2 : n ≤ 16) : arB z.1 z.2 = true := by
  obtain ⟨k1, k2, k3⟩ := h
  refine arB_of k1 ⟨h1, by omega, k2⟩ fun v hv => vOk_iff.2 ?_
  obtain ⟨m1, m2, m3⟩ := k3 v hv
  rw [k1]
  have := set_short m3
  exact ⟨m1, ⟨m2, by omega⟩, m3⟩
theorem listM_pos {ms : List Bool} (h : ∃ v, gb ms v = true) : 1 ≤ (listM ms).length := by
  obtain ⟨v, hv⟩ := h
  have hl := gb_lt hv
  have : (v : Int) ∈ listM ms := mem_listM.2 ⟨v, hl, hv, rfl⟩
  exact List.length_pos_of_mem this

/-- an arena by dice -/
def ArenaBy (w0 w : World) (b : Nat) (most : Int) (e : Ending) (w' : World) : Prop :=
  ∃ s0 s1 z, e = .returned (.agg #[s0, s1]) ∧ (arB z.1 z.2 = true ∧ (z.1.length : Int) ≤ most) ∧ OArn w' w.heap.size s0 s1 z ∧ DiceAt w0 w' b ∧ Chg (fun y => y = b) w w'

theorem OB.chg {E : TypeId} {S : Nat → Prop} {w w' : World} {lo : Nat} {v : Value} {xs : List Bool} (h : OB E w lo v xs) (hc : Chg S w w') (hS : ∀ b, v.ownBlock = some b → ¬ S b) : OB E w' lo v xs := row_chg h hc hS
set_option maxRecDepth 100000 in
set_option maxHeartbeats 1600000 in
theorem w6Arena (w0 w : World) (b : Nat) (most : Int) (hd : DiceAt w0 w b) (h0 : 1 ≤ most) (hn : most ≤ 16) :
    Calls Tryz.prog 6 #[.pointer (some ⟨b, 0, none⟩), .int .i64 most] w (ArenaBy w0 w b most) := by
  have hdl := hd.lt
  have hba : Below w.heap.size w (w.alloc (.cells #[.slice none 0 0, .slice none 0 0] 30)) := below_alloc (Nat.le_refl _) (Below.refl _ _)
  have bz := Box.new w 30 #[.slice none 0 0, .slice none 0 0]
  go_enter Tryz.func6, Tryz.ntmps6
  go_wp2_with fail
  refine (below w0 _ b most (hd.on hba) h0).mono ?_; rintro e w1 ⟨x, rfl, hx, hd1, hc1⟩
  obtain ⟨x', rfl⟩ := Int.eq_ofNat_of_zero_le hx.1
  have hca : Chg (fun y => y = b) w w1 := chg_then ((Chg.refl _ _).alloc _) hc1
  replace bz : Box w1 w.heap.size 30 #[.slice none 0 0, .slice none 0 0] := (hc1.block _ bz.lt (fun e => by have h3 : w.heap.size = b := e; omega)).trans bz
  have hx16 : x' < 16 := by omega
  obtain ⟨m, hxm⟩ : ∃ m : Nat, 1 + (x' : Int) = (m : Int) := ⟨x' + 1, by omega⟩
  have HX := Lib.hid (show (m : Int) ≤ most by omega)
  have hm1 : 1 ≤ m := by omega
  have hm2 : m ≤ 16 := by omega
  go_wp2
  try simp only [hxm]
  have hs1 := hca.size
  have hs01 : w.heap.size < w1.heap.size := bz.lt
  go_loopw [7] (fun i wr => ∃ (k : Nat) (s0 s1 : Value) (z : ArD), k ≤ m ∧ i = .int .i64 k ∧ arUp (m : Int) z k ∧ Box wr w.heap.size 30 #[.slice none 0 0, .slice none 0 0] ∧ Box wr w1.heap.size 30 #[s0, s1] ∧ OArn wr (w1.heap.size + 1) s0 s1 z ∧ DiceAt w0 wr b ∧ Chg (fun y => y = b) w wr) (fun i _ => m - (intOf i).toNat)
  case atStart => exact ⟨0, _, _, ([], []), Nat.zero_le _, rfl, arUp_zero _, bz.alloc _, Box.new _ _ _, OArn.nil _ _, hd1.on (below_alloc (Nat.le_refl _) (Below.refl _ _)), hca.alloc _⟩
  case round =>
    clear bz hd1 hca hc1 hd hba
    obtain ⟨k, s0, s1, z, hk, rfl, hz, bz, bx, ho, hdr, hc⟩ := hrel
    have HZ := Lib.hid hz
    have hz1 := hz.1; have hz2 := hz.2.1
    clear hz
    by_cases hlt : k < m
    · have hki : (k : Int) < (m : Int) := by omega
      obtain ⟨A0, c0, A1, c1, rfl, rfl⟩ := ho.form
      generalize wr = wo at *
      have hbo := bx.lt
      have hso := hc.size
      go_wp2_with (refine wpList_makeB rfl (.tmp 22) rfl _ m rfl (by omega) ?_; intro w3 hin hb3)
      have hd3 := hdr.on hb3
      refine (below w0 _ b 3 hd3 (by omega)).mono ?_; rintro e w4 ⟨x2, rfl, hx2, hd4, hc4⟩
      have hin4 := hin.chg hc4 (fun y hy e => by have h1 := hin.lt y hy; have h3 : y = b := e; have := hdr.lt; omega)
      have hcw4 := chg_then ((Chg.refl (fun y => y = b) wo).then_below hb3 (Nat.le_refl _)) hc4
      obtain ⟨t0, ht0⟩ : ∃ t0 : Nat, 1 + x2 = (t0 : Int) := ⟨(1 + x2).toNat, by omega⟩
      have ht1 : 1 ≤ t0 := by omega
      have ht3 : t0 ≤ 3 := by omega
      have hgo : wo.heap.size < w4.heap.size := (hin4.lt _ rfl).2
      clear hd3 hc4 hin
      go_wp2
      try simp only [ht0]
      go_loopw [9] (fun i wr => ∃ (t : Nat) (ms : List Bool), t ≤ 3 ∧ i = .int .i64 t ∧ ms.length = m ∧ (t = t0 ∨ ∃ v, gb ms v = true) ∧ OB 4 wr wo.heap.size (.slice (some ⟨wo.heap.size, 0, none⟩) m m) ms ∧ DiceAt w0 wr b ∧ Chg (fun y => y = b) wo wr) (fun i _ => (intOf i).toNat)
      case atStart => exact ⟨t0, _, ht3, rfl, by simp, .inl rfl, hin4, hd4, hcw4⟩
      case round =>
        clear hin4 hd4 hcw4 hgo
        obtain ⟨t, ms, ht, rfl, hml, hex, hin, hdr2, hcw⟩ := hrel
        have HEX := Lib.hid hex
        clear hex
        have hgo : wo.heap.size < wr.heap.size := (hin.lt _ rfl).2
        by_cases htp : 0 < t
        · have hti : (0 : Int) < (t : Int) := by omega
          go_wp2_with fail
          refine (below w0 _ b m hdr2 (by omega)).mono ?_; rintro e w5 ⟨y, rfl, hy, hd5, hc5⟩
          obtain ⟨y', rfl⟩ := Int.eq_ofNat_of_zero_le hy.1
          have hyl : (y' : Int) < (m : Int) := hy.2
          have hy0 : (0 : Int) ≤ (y' : Int) := by omega
          have hin5 := hin.chg hc5 (fun y hy e => by have h1 := hin.lt y hy; have h3 : y = b := e; have := hdr.lt; omega)
          have hcx := hin5.atx (i := y') (by omega)
          have hfx := hin5.hot (i := y') hml.symm
          clear hy
          go_wp2
          go_roundw
          case rel => exact ⟨t - 1, _, by omega, by rw [show ((t - 1 : Nat) : Int) = (t : Int) - 1 by omega], by rw [List.length_set]; exact hml, .inr ⟨y', by rw [gb_set (by omega), if_pos rfl]⟩, hin5.set_ hml.symm true, hd5.chg (Chg.set ⟨wo.heap.size, y', none⟩ _) (fun x hx => by have h3 : x = wo.heap.size := hx; have := hdr.lt; omega), (chg_then hcw hc5).push (Chg.set ⟨wo.heap.size, y', none⟩ _) (fun x hx => .inr (by have h3 : x = wo.heap.size := hx; omega))⟩
          case measure => simp [intOf]; omega
        · obtain rfl : t = 0 := by omega
          rw [show ((0 : Nat) : Int) = 0 from rfl]
          have HV := Lib.hid (show ∃ v, gb ms v = true from HEX.out.resolve_left (by omega))
          generalize wr = w5 at *
          have hem := OI.empty (E := 2) (w := w5) (B := w5.heap.size) (Nat.le_refl _)
          have hbe : Below w5.heap.size w5 (w5.alloc (.cells #[] 2)) := below_alloc (Nat.le_refl _) (Below.refl _ _)
          go_wp2
          go_loopw [10, 11] (fun v i wr => ∃ k2 : Nat, k2 ≤ m ∧ i = .int .i64 k2 ∧ OI 2 wr w5.heap.size v (listUp ms k2) ∧ OB 4 wr wo.heap.size (.slice (some ⟨wo.heap.size, 0, none⟩) m m) ms ∧ DiceAt w0 wr b ∧ Chg (fun y => y = b) wo wr ∧ w5.heap.size ≤ wr.heap.size) (fun _ i _ => m - (intOf i).toNat)
          case atStart => exact ⟨0, Nat.zero_le _, rfl, hem, hin.below hbe, hdr2.on hbe, hcw.then_below hbe (by omega), by simp⟩
          case round =>
            clear hem hbe hin hdr2 hcw
            obtain ⟨k2, hk2, rfl, hov, hin, hdr2, hcw, hs5⟩ := hrel
            have hlu : (listUp ms k2).length ≤ k2 := pick_len _ _ _
            by_cases hl2 : k2 < m
            · have hcx := hin.atx (i := k2) (by omega)
              have hk2i : (k2 : Int) < (m : Int) := by omega
              have hk20 : (0 : Int) ≤ (k2 : Int) := by omega
              cases hg : gb ms k2 with
              | true =>
                rw [hg] at hcx
                have X := Lib.hid (show listUp ms (k2 + 1) = listUp ms k2 ++ [(k2 : Int)] from pick_yes hg)
                clear hg
                go_wp2_with (at_builtin; refine wpList_pushI rfl (.tmp 46) (.tmp 48) rfl _ w5.heap.size u10 (listUp ms k2) (by rfl) hov _ (by rfl) (by omega) hs5 ?_; intro v2 w2 ho2 hb2 hc2 hat2)
                go_wp2
                go_roundw
                case rel =>
                  have hin2 := hin.chg hc2 (fun y hy e => by
                    have h1 := (hov.lt y e).1
                    simp [Value.ownBlock] at hy
                    omega)
                  exact ⟨k2 + 1, by omega, by go_num, by rw [X.out]; exact ho2, hin2, hdr2.chg hc2 (fun y hy => by have := (hov.lt y hy).1; have := hdr.lt; omega), hcw.push hc2 (fun y hy => .inr (by have := (hov.lt y hy).1; omega)), Nat.le_trans hs5 hc2.size⟩
                case measure => simp [intOf]; omega
              | false =>
                rw [hg] at hcx
                have X := Lib.hid (show listUp ms (k2 + 1) = listUp ms k2 from pick_no hg)
                clear hg
                go_wp2
                go_roundw
                case rel => exact ⟨k2 + 1, by omega, by go_num, by rw [X.out]; exact hov, hin, hdr2, hcw, hs5⟩
                case measure => simp [intOf]; omega
            · obtain rfl : m = k2 := by omega
              have XL := Lib.hid (show listUp ms m = listM ms by unfold listM; rw [hml])
              rw [XL.out] at hov
              obtain ⟨Av, cv, rfl⟩ := hov.form
              have hlo : w1.heap.size + 1 ≤ wo.heap.size := hbo
              have hblo : b < w1.heap.size := by omega
              have hop := OPar.ofArn ho hlo hcw (fun y hy => by have h3 : y = b := hy; omega) (hov.more (by omega))
              have bz2 : Box wr w.heap.size 30 #[.slice none 0 0, .slice none 0 0] := (hcw.block _ bz.lt (fun e => by have h3 : w.heap.size = b := e; omega)).trans bz
              have bx2 : Box wr w1.heap.size 30 #[.slice A0 z.1.length c0, .slice A1 z.2.length c1] := (hcw.block _ bx.lt (fun e => by have h3 : w1.heap.size = b := e; omega)).trans bx
              have hcc := hc.push hcw (fun y hy => .inl hy)
              have hpos := listM_pos HV.out
              have hset : setB (listM ms) (m : Int) = true := listM_set hml
              have HP := Lib.hid hpos
              have HS := Lib.hid hset
              have hlw : w1.heap.size + 1 ≤ wr.heap.size := by have := hcw.size; omega
              have hkz : z.2.length ≤ 4194304 := by omega
              have hkz1 : z.1.length ≤ 4194304 := by omega
              clear hin hov hcw ho bz bx hs5 hlu hc hpos hset hgo hbo HEX hz1 hz2
              go_wp2_with fail
              refine wp_region_held_drew (S := fun _ => True) (by kernel_rfl) trivial (fun hHeld => ?_)
              replace hop := hop.below (Below.drew (Below.refl _ _))
              replace bz2 : Box wr.drew _ _ _ := bz2
              replace bx2 : Box wr.drew _ _ _ := bx2
              replace hdr2 := hdr2.on (Below.drew (Below.refl _ _))
              replace hcc : Chg (fun y => y = b) w wr.drew := hcc.drewN 1
              replace hlw : w1.heap.size + 1 ≤ wr.drew.heap.size := hlw
              generalize wr.drew = wD at *
              have g0 := bx2.d0
              refine takeH0 (v := ?_) (by kernel_rfl) (by kernel_rfl) (by kernel_rfl) (fun _ _ _ h => h) hHeld (by rfl) ?_ ?_
              rotate_left; · (intro w hSw; (try dsimp only at hSw); go_simp; try with_reducible rfl)
              try simp only [Act.put, List.setIfInBounds_toArray, List.set_cons_zero, List.set_cons_succ]
              refine takeH2 (v := ?_) (by kernel_rfl) (by kernel_rfl) (by kernel_rfl) (fun _ _ _ h => h) hHeld (by rfl) ?_ ?_
              rotate_left; · (intro w hSw; (try dsimp only at hSw); go_simp; try with_reducible rfl)
              try simp only [Act.put, List.setIfInBounds_toArray, List.set_cons_zero, List.set_cons_succ]
              refine twoH_1_3 (by kernel_rfl) (fun K hK => ?_) (fun K hK => ?_)
              · go_simp
                refine hK.out _ _ (trivial) (fun hHeld => ?_)
                clear hK K
                try simp only [Act.put, List.setIfInBounds_toArray, List.set_cons_zero, List.set_cons_succ]
                refine callH3 (by kernel_rfl) (fun K hK => ?_)
                go_simp
                go_at_call 11
                refine (below w0 _ b 2 hdr2 (by omega)).mono ?_; rintro e w6 ⟨x, rfl, hx6, hd6, hc6⟩
                have bx6 : Box w6 w1.heap.size 30 #[.slice A0 z.1.length c0, .slice A1 z.2.length c1] := (hc6.block _ bx2.lt (fun e => by have h3 : w1.heap.size = b := e; omega)).trans bx2
                have bz6 : Box w6 w.heap.size 30 #[.slice none 0 0, .slice none 0 0] := (hc6.block _ bz2.lt (fun e => by have h3 : w.heap.size = b := e; omega)).trans bz2
                have g06 := bx6.d0
                have hop6 := hop.chg hc6 (fun y hy => by have h3 : y = b := hy; omega)
                have hcc6 := chg_then hcc hc6
                have hl6 : w1.heap.size + 1 ≤ w6.heap.size := Nat.le_trans hlw hc6.size
                go_wp2_with fail
                refine hK.out _ _ (trivial) (fun hHeld => ?_)
                clear hK K
                try simp only [Act.put, List.setIfInBounds_toArray, List.set_cons_zero, List.set_cons_succ]
                refine callH4 (by kernel_rfl) (fun K hK => ?_)
                go_simp
                refine hK.out _ _ (trivial) (fun hHeld => ?_)
                clear hK K
                try simp only [Act.put, List.setIfInBounds_toArray, List.set_cons_zero, List.set_cons_succ]
                refine callH5 (by kernel_rfl) (fun K hK => ?_)
                have hbA : Below w6.heap.size w6 (w6.alloc (.cells #[.int .i64 x] 2)) := below_alloc (Nat.le_refl _) (Below.refl _ _)
                have hq1 : RI (w6.alloc (.cells #[.int .i64 x] 2)) (some ⟨w6.heap.size, 0, none⟩) 1 1 [x] := RI.one1 ((Box.new w6 2 #[.int .i64 x]).cell 0)
                have hopA := hop6.below hbA
                have hoA : OI 2 (w6.alloc (.cells #[.int .i64 x] 2)) (w1.heap.size + 1) (.slice A0 z.1.length c0) z.1 := by obtain ⟨cs, h1, _⟩ := hopA; exact h1.1
                have hlA : w1.heap.size + 1 ≤ (w6.alloc (.cells #[.int .i64 x] 2)).heap.size := Nat.le_trans hl6 hbA.size
                refine step_of_list (by rfl) (wp_appI (.tmp 51) (.tmp 54) (by rfl) (w6.alloc (.cells #[.int .i64 x] 2)) (w1.heap.size + 1) (.slice A0 z.1.length c0) z.1 (by rfl) hoA (some ⟨w6.heap.size, 0, none⟩) 1 1 [x] (by rfl) hq1 hkz1 (by omega) hlA ?_)
                intro v7 w7 ho7 hb7 hc7 hat7
                obtain ⟨A7, c7, rfl⟩ := ho7.form
                rw [List.length_append, List.length_singleton] at ho7 ⊢
                simp only [List.length_append, List.length_singleton] at hat7
                have hown : ∀ y, (Value.slice A0 z.1.length c0).ownBlock = some y → w1.heap.size + 1 ≤ y := fun y hy => (hoA.lt y hy).1
                have hop7 := hopA.put0 hc7 ho7 hat7
                have bx7 : Box w7 w1.heap.size 30 #[.slice A0 z.1.length c0, .slice A1 z.2.length c1] := (hc7.block _ (bx6.alloc _).lt (fun e => by have := hown _ e; omega)).trans (bx6.alloc _)
                have bz7 : Box w7 w.heap.size 30 #[.slice none 0 0, .slice none 0 0] := (hc7.block _ (bz6.alloc _).lt (fun e => by have := hown _ e; omega)).trans (bz6.alloc _)
                have hd7 := (hd6.on hbA).chg hc7 (fun y hy => by have := hown y hy; omega)
                have hcc7 := (hcc6.then_below hbA (by omega)).push hc7 (fun y hy => .inr (by have := hown y hy; omega))
                have g07 := bx7.d0
                have f07 := bx7.hot 0
                have hl7 := Nat.le_trans hlA hc7.size
                clear hop hop6 hopA hoA hq1 bz2 bx2 bx6 bz6 hdr2 hd6 hcc hcc6 hc6 hbA hat7
                refine hK.out _ _ (trivial) (fun hHeld => ?_)
                clear hK K
                try simp only [Act.put, List.setIfInBounds_toArray, List.set_cons_zero, List.set_cons_succ]
                refine takeH6 (v := ?_) (by kernel_rfl) (by kernel_rfl) (by kernel_rfl) (fun _ _ _ h => h) hHeld (by rfl) ?_ ?_
                rotate_left; · (intro w hSw; (try dsimp only at hSw); go_simp; try with_reducible rfl)
                try simp only [Act.put, List.setIfInBounds_toArray, List.set_cons_zero, List.set_cons_succ]
                refine callH7 (by kernel_rfl) (fun K hK => ?_)
                go_simp
                refine hK.out _ _ (trivial) (fun hHeld => ?_)
                clear hK K
                try simp only [Act.put, List.setIfInBounds_toArray, List.set_cons_zero, List.set_cons_succ]
                refine wpAnyH_done (by kernel_rfl) ?_ _
                have ch8 : Chg (fun y => y = w1.heap.size) w7 (w7.setCell ⟨w1.heap.size, 0, none⟩ (.slice A7 (z.1.length + 1) c7)) := Chg.set ⟨w1.heap.size, 0, none⟩ (.slice A7 (z.1.length + 1) c7)
                have bx8 : Box (w7.setCell ⟨w1.heap.size, 0, none⟩ (.slice A7 (z.1.length + 1) c7)) w1.heap.size 30 #[.slice A7 (z.1.length + 1) c7, .slice A1 z.2.length c1] := bx7.set_ 0 (.slice A7 (z.1.length + 1) c7)
                have bz8 : Box (w7.setCell ⟨w1.heap.size, 0, none⟩ (.slice A7 (z.1.length + 1) c7)) w.heap.size 30 #[.slice none 0 0, .slice none 0 0] := bz7.far (by show w.heap.size ≠ w1.heap.size; omega) _
                have hop8 := hop7.chg ch8 (fun y hy => by omega)
                have hd8 := hd7.chg ch8 (fun y hy => by omega)
                have hcc8 := hcc7.push ch8 (fun y hy => .inr (by omega))
                have g18 := bx8.d1
                have hl8 := Nat.le_trans hl7 ch8.size
                clear hop7 hd7 hcc7 ch8 bx7 bz7 g07 f07 g0 g06
                generalize w7.setCell ⟨w1.heap.size, 0, none⟩ (.slice A7 (z.1.length + 1) c7) = w8 at *
                go_wp2_with (at_builtin; go_loud (refine wpList_pushU rfl (.tmp 58) (.tmp 60) (by rfl) w8 (w1.heap.size + 1) (.slice A7 (z.1.length + 1) c7) (.slice A1 z.2.length c1) (.slice Av (listM ms).length cv) (z.1 ++ [x], z.2, listM ms) (by rfl) (by rfl) hl8 hop8 hkz ?_; intro t1 w9 ho9 hb9 hc9 hat9; obtain ⟨A8, c8, A9, c9, h0e9, h1e9⟩ := ho9.form; have h1e : t1 = .slice A9 (z.2.length + 1) c9 := (by rw [h1e9]; simp); clear h0e9 h1e9 hat9; subst h1e; have hown9 : ∀ y, (Value.slice A1 z.2.length c1).ownBlock = some y → w1.heap.size + 1 ≤ y := fun y hy => hop8.oldA y (.inr (.inl hy)); have bx9 : Box w9 w1.heap.size 30 #[.slice A7 (z.1.length + 1) c7, .slice A1 z.2.length c1] := (hc9.block _ bx8.lt (fun e => by have := hown9 _ e; omega)).trans bx8; have g9 := bx9.d1; have f9 := bx9.hot 1))
                have hl9 := hc9.size
                have ch9 : Chg (fun y => y = w1.heap.size) w9 (w9.setCell ⟨w1.heap.size, 1, none⟩ (.slice A9 (z.2.length + 1) c9)) := Chg.set ⟨w1.heap.size, 1, none⟩ (.slice A9 (z.2.length + 1) c9)
                have bzF : Box (w9.setCell ⟨w1.heap.size, 1, none⟩ (.slice A9 (z.2.length + 1) c9)) w.heap.size 30 #[.slice none 0 0, .slice none 0 0] := Box.far ((hc9.block _ bz8.lt (fun e => by have := hown9 _ e; omega)).trans bz8) (by show w.heap.size ≠ w1.heap.size; omega) _
                have hoF := ho9.chg ch9 (fun y hy => by omega)
                have hdF := (hd8.chg hc9 (fun y hy => by have := hown9 y hy; omega)).chg ch9 (fun y hy => by omega)
                have hccF := (hcc8.push hc9 (fun y hy => .inr (by have := hown9 y hy; omega))).push ch9 (fun y hy => .inr (by omega))
                exact ⟨⟨k + 1, _, _, (z.1 ++ [x], z.2 ++ [listM ms]), by omega, by go_num, arUp_succ HZ.out hx6 HP.out HS.out, bzF, bx9.set_ 1 (.slice A9 (z.2.length + 1) c9), hoF, hdF, hccF⟩, by simp [intOf]; omega⟩
              · go_simp
                go_at_call 11
                refine (below w0 _ b 2 hdr2 (by omega)).mono ?_; rintro e w6 ⟨x, rfl, hx6, hd6, hc6⟩
                have bx6 : Box w6 w1.heap.size 30 #[.slice A0 z.1.length c0, .slice A1 z.2.length c1] := (hc6.block _ bx2.lt (fun e => by have h3 : w1.heap.size = b := e; omega)).trans bx2
                have bz6 : Box w6 w.heap.size 30 #[.slice none 0 0, .slice none 0 0] := (hc6.block _ bz2.lt (fun e => by have h3 : w.heap.size = b := e; omega)).trans bz2
                have g06 := bx6.d0
                have hop6 := hop.chg hc6 (fun y hy => by have h3 : y = b := hy; omega)
                have hcc6 := chg_then hcc hc6
                have hl6 : w1.heap.size + 1 ≤ w6.heap.size := Nat.le_trans hlw hc6.size
                have g0A : ∀ o, (w6.alloc o).cell? ⟨w1.heap.size, 0, none⟩ = some (.slice A0 z.1.length c0) := fun o => keepA g06
                go_wp2_with fail
                refine hK.out _ _ (trivial) (fun hHeld => ?_)
                clear hK K
                try simp only [Act.put, List.setIfInBounds_toArray, List.set_cons_zero, List.set_cons_succ]
                refine twoH_1_4 (by kernel_rfl) (fun K hK => ?_) (fun K hK => ?_)
                · go_simp
                  refine hK.out _ _ (trivial) (fun hHeld => ?_)
                  clear hK K
                  try simp only [Act.put, List.setIfInBounds_toArray, List.set_cons_zero, List.set_cons_succ]
                  refine callH4 (by kernel_rfl) (fun K hK => ?_)
                  go_simp
                  refine hK.out _ _ (trivial) (fun hHeld => ?_)
                  clear hK K
                  try simp only [Act.put, List.setIfInBounds_toArray, List.set_cons_zero, List.set_cons_succ]
                  refine callH5 (by kernel_rfl) (fun K hK => ?_)
                  have hbA : Below w6.heap.size w6 (w6.alloc (.cells #[.int .i64 x] 2)) := below_alloc (Nat.le_refl _) (Below.refl _ _)
                  have hq1 : RI (w6.alloc (.cells #[.int .i64 x] 2)) (some ⟨w6.heap.size, 0, none⟩) 1 1 [x] := RI.one1 ((Box.new w6 2 #[.int .i64 x]).cell 0)
                  have hopA := hop6.below hbA
                  have hoA : OI 2 (w6.alloc (.cells #[.int .i64 x] 2)) (w1.heap.size + 1) (.slice A0 z.1.length c0) z.1 := by obtain ⟨cs, h1, _⟩ := hopA; exact h1.1
                  have hlA : w1.heap.size + 1 ≤ (w6.alloc (.cells #[.int .i64 x] 2)).heap.size := Nat.le_trans hl6 hbA.size
                  refine step_of_list (by rfl) (wp_appI (.tmp 51) (.tmp 54) (by rfl) (w6.alloc (.cells #[.int .i64 x] 2)) (w1.heap.size + 1) (.slice A0 z.1.length c0) z.1 (by rfl) hoA (some ⟨w6.heap.size, 0, none⟩) 1 1 [x] (by rfl) hq1 hkz1 (by omega) hlA ?_)
                  intro v7 w7 ho7 hb7 hc7 hat7
                  obtain ⟨A7, c7, rfl⟩ := ho7.form
                  rw [List.length_append, List.length_singleton] at ho7 ⊢
                  simp only [List.length_append, List.length_singleton] at hat7
                  have hown : ∀ y, (Value.slice A0 z.1.length c0).ownBlock = some y → w1.heap.size + 1 ≤ y := fun y hy => (hoA.lt y hy).1
                  have hop7 := hopA.put0 hc7 ho7 hat7
                  have bx7 : Box w7 w1.heap.size 30 #[.slice A0 z.1.length c0, .slice A1 z.2.length c1] := (hc7.block _ (bx6.alloc _).lt (fun e => by have := hown _ e; omega)).trans (bx6.alloc _)
                  have bz7 : Box w7 w.heap.size 30 #[.slice none 0 0, .slice none 0 0] := (hc7.block _ (bz6.alloc _).lt (fun e => by have := hown _ e; omega)).trans (bz6.alloc _)
                  have hd7 := (hd6.on hbA).chg hc7 (fun y hy => by have := hown y hy; omega)
                  have hcc7 := (hcc6.then_below hbA (by omega)).push hc7 (fun y hy => .inr (by have := hown y hy; omega))
                  have g07 := bx7.d0
                  have f07 := bx7.hot 0
                  have hl7 := Nat.le_trans hlA hc7.size
                  clear hop hop6 hopA hoA hq1 bz2 bx2 bx6 bz6 hdr2 hd6 hcc hcc6 hc6 hbA hat7
                  refine hK.out _ _ (trivial) (fun hHeld => ?_)
                  clear hK K
                  try simp only [Act.put, List.setIfInBounds_toArray, List.set_cons_zero, List.set_cons_succ]
                  refine takeH6 (v := ?_) (by kernel_rfl) (by kernel_rfl) (by kernel_rfl) (fun _ _ _ h => h) hHeld (by rfl) ?_ ?_
                  rotate_left; · (intro w hSw; (try dsimp only at hSw); go_simp; try with_reducible rfl)
                  try simp only [Act.put, List.setIfInBounds_toArray, List.set_cons_zero, List.set_cons_succ]
                  refine callH7 (by kernel_rfl) (fun K hK => ?_)
                  go_simp
                  refine hK.out _ _ (trivial) (fun hHeld => ?_)
                  clear hK K
                  try simp only [Act.put, List.setIfInBounds_toArray, List.set_cons_zero, List.set_cons_succ]
                  refine wpAnyH_done (by kernel_rfl) ?_ _
                  have ch8 : Chg (fun y => y = w1.heap.size) w7 (w7.setCell ⟨w1.heap.size, 0, none⟩ (.slice A7 (z.1.length + 1) c7)) := Chg.set ⟨w1.heap.size, 0, none⟩ (.slice A7 (z.1.length + 1) c7)
                  have bx8 : Box (w7.setCell ⟨w1.heap.size, 0, none⟩ (.slice A7 (z.1.length + 1) c7)) w1.heap.size 30 #[.slice A7 (z.1.length + 1) c7, .slice A1 z.2.length c1] := bx7.set_ 0 (.slice A7 (z.1.length + 1) c7)
                  have bz8 : Box (w7.setCell ⟨w1.heap.size, 0, none⟩ (.slice A7 (z.1.length + 1) c7)) w.heap.size 30 #[.slice none 0 0, .slice none 0 0] := bz7.far (by show w.heap.size ≠ w1.heap.size; omega) _
                  have hop8 := hop7.chg ch8 (fun y hy => by omega)
                  have hd8 := hd7.chg ch8 (fun y hy => by omega)
                  have hcc8 := hcc7.push ch8 (fun y hy => .inr (by omega))
                  have g18 := bx8.d1
                  have hl8 := Nat.le_trans hl7 ch8.size
                  clear hop7 hd7 hcc7 ch8 bx7 bz7 g07 f07 g0 g06
                  generalize w7.setCell ⟨w1.heap.size, 0, none⟩ (.slice A7 (z.1.length + 1) c7) = w8 at *
                  go_wp2_with (at_builtin; go_loud (refine wpList_pushU rfl (.tmp 58) (.tmp 60) (by rfl) w8 (w1.heap.size + 1) (.slice A7 (z.1.length + 1) c7) (.slice A1 z.2.length c1) (.slice Av (listM ms).length cv) (z.1 ++ [x], z.2, listM ms) (by rfl) (by rfl) hl8 hop8 hkz ?_; intro t1 w9 ho9 hb9 hc9 hat9; obtain ⟨A8, c8, A9, c9, h0e9, h1e9⟩ := ho9.form; have h1e : t1 = .slice A9 (z.2.length + 1) c9 := (by rw [h1e9]; simp); clear h0e9 h1e9 hat9; subst h1e; have hown9 : ∀ y, (Value.slice A1 z.2.length c1).ownBlock = some y → w1.heap.size + 1 ≤ y := fun y hy => hop8.oldA y (.inr (.inl hy)); have bx9 : Box w9 w1.heap.size 30 #[.slice A7 (z.1.length + 1) c7, .slice A1 z.2.length c1] := (hc9.block _ bx8.lt (fun e => by have := hown9 _ e; omega)).trans bx8; have g9 := bx9.d1; have f9 := bx9.hot 1))
                  have hl9 := hc9.size
                  have ch9 : Chg (fun y => y = w1.heap.size) w9 (w9.setCell ⟨w1.heap.size, 1, none⟩ (.slice A9 (z.2.length + 1) c9)) := Chg.set ⟨w1.heap.size, 1, none⟩ (.slice A9 (z.2.length + 1) c9)
                  have bzF : Box (w9.setCell ⟨w1.heap.size, 1, none⟩ (.slice A9 (z.2.length + 1) c9)) w.heap.size 30 #[.slice none 0 0, .slice none 0 0] := Box.far ((hc9.block _ bz8.lt (fun e => by have := hown9 _ e; omega)).trans bz8) (by show w.heap.size ≠ w1.heap.size; omega) _
                  have hoF := ho9.chg ch9 (fun y hy => by omega)
                  have hdF := (hd8.chg hc9 (fun y hy => by have := hown9 y hy; omega)).chg ch9 (fun y hy => by omega)
                  have hccF := (hcc8.push hc9 (fun y hy => .inr (by have := hown9 y hy; omega))).push ch9 (fun y hy => .inr (by omega))
                  exact ⟨⟨k + 1, _, _, (z.1 ++ [x], z.2 ++ [listM ms]), by omega, by go_num, arUp_succ HZ.out hx6 HP.out HS.out, bzF, bx9.set_ 1 (.slice A9 (z.2.length + 1) c9), hoF, hdF, hccF⟩, by simp [intOf]; omega⟩
                · go_simp
                  refine hK.out _ _ (trivial) (fun hHeld => ?_)
                  clear hK K
                  try simp only [Act.put, List.setIfInBounds_toArray, List.set_cons_zero, List.set_cons_succ]
                  refine callH1 (by kernel_rfl) (fun K hK => ?_)
                  go_simp
                  refine hK.out _ _ (trivial) (fun hHeld => ?_)
                  clear hK K
                  try simp only [Act.put, List.setIfInBounds_toArray, List.set_cons_zero, List.set_cons_succ]
                  refine callH5 (by kernel_rfl) (fun K hK => ?_)
                  have hbA : Below w6.heap.size w6 (w6.alloc (.cells #[.int .i64 x] 2)) := below_alloc (Nat.le_refl _) (Below.refl _ _)
                  have hq1 : RI (w6.alloc (.cells #[.int .i64 x] 2)) (some ⟨w6.heap.size, 0, none⟩) 1 1 [x] := RI.one1 ((Box.new w6 2 #[.int .i64 x]).cell 0)
                  have hopA := hop6.below hbA
                  have hoA : OI 2 (w6.alloc (.cells #[.int .i64 x] 2)) (w1.heap.size + 1) (.slice A0 z.1.length c0) z.1 := by obtain ⟨cs, h1, _⟩ := hopA; exact h1.1
                  have hlA : w1.heap.size + 1 ≤ (w6.alloc (.cells #[.int .i64 x] 2)).heap.size := Nat.le_trans hl6 hbA.size
                  refine step_of_list (by rfl) (wp_appI (.tmp 51) (.tmp 54) (by rfl) (w6.alloc (.cells #[.int .i64 x] 2)) (w1.heap.size + 1) (.slice A0 z.1.length c0) z.1 (by rfl) hoA (some ⟨w6.heap.size, 0, none⟩) 1 1 [x] (by rfl) hq1 hkz1 (by omega) hlA ?_)
                  intro v7 w7 ho7 hb7 hc7 hat7
                  obtain ⟨A7, c7, rfl⟩ := ho7.form
                  rw [List.length_append, List.length_singleton] at ho7 ⊢
                  simp only [List.length_append, List.length_singleton] at hat7
                  have hown : ∀ y, (Value.slice A0 z.1.length c0).ownBlock = some y → w1.heap.size + 1 ≤ y := fun y hy => (hoA.lt y hy).1
                  have hop7 := hopA.put0 hc7 ho7 hat7
                  have bx7 : Box w7 w1.heap.size 30 #[.slice A0 z.1.length c0, .slice A1 z.2.length c1] := (hc7.block _ (bx6.alloc _).lt (fun e => by have := hown _ e; omega)).trans (bx6.alloc _)
                  have bz7 : Box w7 w.heap.size 30 #[.slice none 0 0, .slice none 0 0] := (hc7.block _ (bz6.alloc _).lt (fun e => by have := hown _ e; omega)).trans (bz6.alloc _)
                  have hd7 := (hd6.on hbA).chg hc7 (fun y hy => by have := hown y hy; omega)
                  have hcc7 := (hcc6.then_below hbA (by omega)).push hc7 (fun y hy => .inr (by have := hown y hy; omega))
                  have g07 := bx7.d0
                  have f07 := bx7.hot 0
                  have hl7 := Nat.le_trans hlA hc7.size
                  clear hop hop6 hopA hoA hq1 bz2 bx2 bx6 bz6 hdr2 hd6 hcc hcc6 hc6 hbA hat7
                  refine hK.out _ _ (trivial) (fun hHeld => ?_)
                  clear hK K
                  try simp only [Act.put, List.setIfInBounds_toArray, List.set_cons_zero, List.set_cons_succ]
                  refine takeH6 (v := ?_) (by kernel_rfl) (by kernel_rfl) (by kernel_rfl) (fun _ _ _ h => h) hHeld (by rfl) ?_ ?_
                  rotate_left; · (intro w hSw; (try dsimp only at hSw); go_simp; try with_reducible rfl)
                  try simp only [Act.put, List.setIfInBounds_toArray, List.set_cons_zero, List.set_cons_succ]
                  refine callH7 (by kernel_rfl) (fun K hK => ?_)
                  go_simp
                  refine hK.out _ _ (trivial) (fun hHeld => ?_)
                  clear hK K
                  try simp only [Act.put, List.setIfInBounds_toArray, List.set_cons_zero, List.set_cons_succ]
                  refine wpAnyH_done (by kernel_rfl) ?_ _
                  have ch8 : Chg (fun y => y = w1.heap.size) w7 (w7.setCell ⟨w1.heap.size, 0, none⟩ (.slice A7 (z.1.length + 1) c7)) := Chg.set ⟨w1.heap.size, 0, none⟩ (.slice A7 (z.1.length + 1) c7)
                  have bx8 : Box (w7.setCell ⟨w1.heap.size, 0, none⟩ (.slice A7 (z.1.length + 1) c7)) w1.heap.size 30 #[.slice A7 (z.1.length + 1) c7, .slice A1 z.2.length c1] := bx7.set_ 0 (.slice A7 (z.1.length + 1) c7)
                  have bz8 : Box (w7.setCell ⟨w1.heap.size, 0, none⟩ (.slice A7 (z.1.length + 1) c7)) w.heap.size 30 #[.slice none 0 0, .slice none 0 0] := bz7.far (by show w.heap.size ≠ w1.heap.size; omega) _
                  have hop8 := hop7.chg ch8 (fun y hy => by omega)
                  have hd8 := hd7.chg ch8 (fun y hy => by omega)
                  have hcc8 := hcc7.push ch8 (fun y hy => .inr (by omega))
                  have g18 := bx8.d1
                  have hl8 := Nat.le_trans hl7 ch8.size
                  clear hop7 hd7 hcc7 ch8 bx7 bz7 g07 f07 g0 g06
                  generalize w7.setCell ⟨w1.heap.size, 0, none⟩ (.slice A7 (z.1.length + 1) c7) = w8 at *
                  go_wp2_with (at_builtin; go_loud (refine wpList_pushU rfl (.tmp 58) (.tmp 60) (by rfl) w8 (w1.heap.size + 1) (.slice A7 (z.1.length + 1) c7) (.slice A1 z.2.length c1) (.slice Av (listM ms).length cv) (z.1 ++ [x], z.2, listM ms) (by rfl) (by rfl) hl8 hop8 hkz ?_; intro t1 w9 ho9 hb9 hc9 hat9; obtain ⟨A8, c8, A9, c9, h0e9, h1e9⟩ := ho9.form; have h1e : t1 = .slice A9 (z.2.length + 1) c9 := (by rw [h1e9]; simp); clear h0e9 h1e9 hat9; subst h1e; have hown9 : ∀ y, (Value.slice A1 z.2.length c1).ownBlock = some y → w1.heap.size + 1 ≤ y := fun y hy => hop8.oldA y (.inr (.inl hy)); have bx9 : Box w9 w1.heap.size 30 #[.slice A7 (z.1.length + 1) c7, .slice A1 z.2.length c1] := (hc9.block _ bx8.lt (fun e => by have := hown9 _ e; omega)).trans bx8; have g9 := bx9.d1; have f9 := bx9.hot 1))
                  have hl9 := hc9.size
                  have ch9 : Chg (fun y => y = w1.heap.size) w9 (w9.setCell ⟨w1.heap.size, 1, none⟩ (.slice A9 (z.2.length + 1) c9)) := Chg.set ⟨w1.heap.size, 1, none⟩ (.slice A9 (z.2.length + 1) c9)
                  have bzF : Box (w9.setCell ⟨w1.heap.size, 1, none⟩ (.slice A9 (z.2.length + 1) c9)) w.heap.size 30 #[.slice none 0 0, .slice none 0 0] := Box.far ((hc9.block _ bz8.lt (fun e => by have := hown9 _ e; omega)).trans bz8) (by show w.heap.size ≠ w1.heap.size; omega) _
                  have hoF := ho9.chg ch9 (fun y hy => by omega)
                  have hdF := (hd8.chg hc9 (fun y hy => by have := hown9 y hy; omega)).chg ch9 (fun y hy => by omega)
                  have hccF := (hcc8.push hc9 (fun y hy => .inr (by have := hown9 y hy; omega))).push ch9 (fun y hy => .inr (by omega))
                  exact ⟨⟨k + 1, _, _, (z.1 ++ [x], z.2 ++ [listM ms]), by omega, by go_num, arUp_succ HZ.out hx6 HP.out HS.out, bzF, bx9.set_ 1 (.slice A9 (z.2.length + 1) c9), hoF, hdF, hccF⟩, by simp [intOf]; omega⟩
    · obtain rfl : m = k := by omega
      obtain ⟨A0, c0, A1, c1, rfl, rfl⟩ := ho.form
      have p0 := bx.d0; have p1 := bx.d1; have e0 := bz.d0; have e1 := bz.d1; have f0 := bz.hot 0; have f1 := bz.hot 1
      have hs2 := hc.size
      have ch : Chg (fun y => y = w.heap.size) wr ((wr.setCell ⟨w.heap.size, 0, none⟩ (.slice A0 z.1.length c0)).setCell ⟨w.heap.size, 1, none⟩ (.slice A1 z.2.length c1)) := (Chg.set (w := wr) ⟨w.heap.size, 0, none⟩ (.slice A0 z.1.length c0)).trans (Chg.set ⟨w.heap.size, 1, none⟩ (.slice A1 z.2.length c1)) (U := fun y => y = w.heap.size) (fun _ h => h) (fun _ h => h)
      have bF : Box ((wr.setCell ⟨w.heap.size, 0, none⟩ (.slice A0 z.1.length c0)).setCell ⟨w.heap.size, 1, none⟩ (.slice A1 z.2.length c1)) w.heap.size 30 #[.slice A0 z.1.length c0, .slice A1 z.2.length c1] := (bz.set_ 0 (.slice A0 z.1.length c0)).set_ 1 (.slice A1 z.2.length c1)
      have R0 := bF.d0
      have R1 := bF.d1
      have fo := ho.chg ch (fun y hy => by omega)
      have fd := hdr.chg ch (fun y hy => by omega)
      have fc := hc.push ch (fun y hy => .inr (by omega))
      have HA := Lib.hid (arUp_ok HZ.out hm1 hm2)
      have HB := Lib.hid (show (z.1.length : Int) ≤ most by rw [HZ.out.1]; exact HX.out)
      clear hz1 hz2
      go_wp2
      exact bodyPost_ret (v := .agg #[.slice A0 z.1.length c0, .slice A1 z.2.length c1]) (by simp [results, Tryz.results6, go_sem, R0, R1]) rfl ⟨_, _, z, rfl, ⟨HA.out, HB.out⟩, fo.more (by omega), fd, fc⟩
end Go.Proofs.YtjjaolndencplaaGreat
namespace Go.Proofs.YtjjaolndencplaaGreat
open Go.RowKit

theorem l1Has (A : Option Addr) (n c : Nat) (xs : List Int) (x : Int) (w : World) (ha : RI w A n c xs) :
    Calls Tryz.prog 34 #[.slice A n c, .int .i64 x] w fun e w' => e = .returned (.bool (hasL xs x)) ∧ Qt w w' := by
  have b1 := ha.cap; have b2 := ha.top
  go_enter Tryz.func34, Tryz.ntmps34
  go_wp2
  go_loop [5] (fun i => ∃ k : Nat, k ≤ n ∧ i = .int .i64 k ∧ (∀ j, j < k → gi xs j ≠ x)) (fun i => n - (intOf i).toNat)
  case atStart => exact ⟨0, Nat.zero_le _, rfl, by omega⟩
  case round =>
    obtain ⟨k, hk, rfl, hall⟩ := hrel
    by_cases hlt : k < n
    · obtain ⟨b, off, rfl, hc1⟩ := ha.at_ hlt
      by_cases he : gi xs k = x
      · have H := Lib.hid he
        have hne : (gi xs k == x) = true := by simp [he]
        clear he
        go_wp2
        go_ret
        exact ⟨ret_b (hasL_of ha.1 hlt H.out).symm, Qt.refl _⟩
      · have H := Lib.hid he
        have hne : (gi xs k == x) = false := by simp [he]
        clear he
        go_wp2
        go_round
        case rel => exact ⟨k + 1, by omega, by go_num, all_succ hall H.out⟩
        case measure => simp [intOf]; omega
    · go_wp2
      go_ret
      obtain rfl : k = n := by omega
      exact ⟨ret_b (hasL_no ha.1 hall).symm, Qt.refl _⟩
end Go.Proofs.YtjjaolndencplaaGreat
namespace Go.Proofs.YtjjaolndencplaaGreat
open Go.RowKit

end Go.Proofs.YtjjaolndencplaaGreat
namespace Go.Proofs.YtjjaolndencplaaGreat
open Go.RowKit

theorem Box.on {w w' : World} {b : Nat} {t : TypeId} {cs : Array Value} (h : Box w b t cs) (hb : Below w.heap.size w w') : Box w' b t cs := h.below hb h.lt
theorem Box.set2 {w : World} {b : Nat} {t : TypeId} {y0 y1 : Value} (h : Box w b t #[y0, y1]) (x0 x1 : Value) : Box ((w.setCell ⟨b, 0, none⟩ x0).setCell ⟨b, 1, none⟩ x1) b t #[x0, x1] := by
  have := (h.set_ 0 x0).set_ 1 x1
  simpa using this
theorem Far.alloc {lo : Nat} {wb w : World} (f : Far lo wb w) (o : Obj) : Far lo wb (w.alloc o) := f.step (below_alloc (Nat.le_refl _) (Below.refl _ _))
theorem Far.drew {lo : Nat} {wb w : World} (f : Far lo wb w) : Far lo wb w.drew := f.step (Below.drew (Below.refl _ _))
theorem Far.set {lo : Nat} {wb w : World} {p : Addr} (f : Far lo wb w) (hp : p.block < lo ∨ wb.heap.size ≤ p.block) (u : Value) : Far lo wb (w.setCell p u) := by
  refine Chg.trans f (Chg.set p u) (fun _ h => h) (fun x hx => ?_)
  have hx' : x = p.block := hx
  subst hx'
  omega
theorem keepS {w : World} {p a : Addr} {v u : Value} (h : w.cell? p = some v) (hne : p.block ≠ a.block) : (w.setCell a u).cell? p = some v := by
  rw [World.cell?_setCell_far w a p u (fun e => hne e.symm)]
  exact h
end Go.Proofs.YtjjaolndencplaaGreat
