/- What RestOf speaks of: vertices won at once, a region, the arena inside of a set. Plain. -/
import Derived.Test.YtlmhhnplacejkaaOftP
import Derived.Test.YtlmhhnplacejkaaParL
import Derived.Test.YtlmhhnplacejkaaSearch
import Derived.Test.YtlmhhnplacejkaaPlan2
import Derived.Test.YtlmhhnplacejkaaLess
namespace Go.Proofs.Ytlmhhnplacejkaa
open Go.RowKit

/-- who wins a vertex at once, by itself -/
def loopV (g : ParD) (v : Nat) : Int := if hasL (gl g.2.1 v) (v : Int) = true ∧ (gi g.1 v = gi g.2.2 v % 2 ∨ (gl g.2.1 v).length = 1) then gi g.2.2 v % 2 else -1
def loopL (g : ParD) : List Int := fill (loopV g) g.2.2.length
theorem loopL_len (g : ParD) : (loopL g).length = g.2.2.length := fill_len _ _
/-- those of a list of winners that one wins -/
def setUp (won : List Int) (who : Int) (k : Nat) : List Int := pick (fun i => gi won i == who) (fun i => (i : Int)) k
def setW (won : List Int) (who : Int) : List Int := setUp won who won.length
theorem setUp_len (won : List Int) (who : Int) (k : Nat) : (setUp won who k).length ≤ k := pick_len _ _ _
theorem setUp_yes {won : List Int} {who : Int} {k : Nat} (h : gi won k = who) : setUp won who (k + 1) = setUp won who k ++ [(k : Int)] := pick_yes (by simp [h])
theorem setUp_no {won : List Int} {who : Int} {k : Nat} (h : ¬ gi won k = who) : setUp won who (k + 1) = setUp won who k := pick_no (by simp [h])
theorem setB_grow {xs : List Int} {n x : Int} (h : setB xs n = true) (h0 : 0 ≤ x) (h1 : x < n) (h2 : ∀ y, y ∈ xs → y < x) : setB (xs ++ [x]) n = true := by
  refine setB_true.2 fun i hi => ?_
  rw [List.length_append, List.length_singleton] at hi
  by_cases e : i < xs.length
  · have := setB_true.1 h i e
    refine ⟨by rw [gi_app_lt e]; exact this.1, by rw [gi_app_lt e]; exact this.2.1, fun h3 => ?_⟩
    rw [gi_app_lt e, gi_app_lt (by omega)]
    exact this.2.2 h3
  · obtain rfl : i = xs.length := by omega
    refine ⟨by rw [gi_app_eq]; exact h0, by rw [gi_app_eq]; exact h1, fun h3 => ?_⟩
    rw [gi_app_eq, gi_app_lt (by omega)]
    exact h2 _ (gi_mem (by omega))
theorem pick_setB (p : Nat → Bool) (n : Nat) : ∀ k, k ≤ n → setB (pick p (fun i => (i : Int)) k) (n : Int) = true
  | 0, _ => setB_nil _
  | k + 1, h => by
    have ih := pick_setB p n k (by omega)
    cases e : p k with
    | false => rw [pick_no e]; exact ih
    | true =>
      rw [pick_yes e]
      refine setB_grow ih (by omega) (by omega) fun y hy => ?_
      obtain ⟨i, hi, _, rfl⟩ := mem_pick.1 hy
      omega
theorem setW_set (won : List Int) (who : Int) : setB (setW won who) (won.length : Int) = true := pick_setB _ _ _ (Nat.le_refl _)

/-- where a number stands in a set, -1 for nowhere -/
def placeL (set : List Int) (u : Int) : Int := firstI (fun i => gi set i == u) set.length
theorem placeL_hit {set : List Int} {n : Int} (h : setB set n = true) {k : Nat} (hk : k < set.length) : placeL set (gi set k) = (k : Int) := by
  have hr := rises_set h
  refine firstI_hit (p := fun i => gi set i == gi set k) (by simp) (fun j hj => ?_) hk
  have := hr j k hj hk
  simp; omega
theorem placeL_no {set : List Int} {u : Int} (h : hasL set u = false) : placeL set u = -1 := by
  refine firstI_none fun j hj => ?_
  have : u ∉ set := of_decide_eq_false h
  cases e : gi set j == u with
  | false => rfl
  | true => exact absurd ((beq_iff_eq.1 e) ▸ gi_mem hj) this
theorem placeL_neg {set : List Int} {n : Int} (hs : setB set n = true) {u : Int} : 0 ≤ placeL set u ↔ hasL set u = true := by
  constructor
  · intro h
    cases e : hasL set u with
    | true => rfl
    | false => rw [placeL_no e] at h; omega
  · intro h
    obtain ⟨i, hi, rfl⟩ := mem_gi (of_decide_eq_true h)
    rw [placeL_hit hs hi]; omega
/-- the numbers of a row that are in a set, as their places in it -/
def inUp (set row : List Int) (k : Nat) : List Int := pick (fun j => hasL set (gi row j)) (fun j => placeL set (gi row j)) k
def inRow (set row : List Int) : List Int := inUp set row row.length
theorem inUp_len (set row : List Int) (k : Nat) : (inUp set row k).length ≤ k := pick_len _ _ _
theorem inUp_yes {set row : List Int} {k : Nat} (h : hasL set (gi row k) = true) : inUp set row (k + 1) = inUp set row k ++ [placeL set (gi row k)] := pick_yes h
theorem inUp_no {set row : List Int} {k : Nat} (h : hasL set (gi row k) = false) : inUp set row (k + 1) = inUp set row k := pick_no h
/-- the arena inside of a set, as far as k vertices -/
def insUp (o : List Int) (n : List (List Int)) (set : List Int) : Nat → ArD
  | 0 => ([], [])
  | k + 1 => ((insUp o n set k).1 ++ [gi o (gi set k).toNat], (insUp o n set k).2 ++ [inRow set (gl n (gi set k).toNat)])
theorem insUp_len (o : List Int) (n : List (List Int)) (set : List Int) (k : Nat) : (insUp o n set k).1.length = k ∧ (insUp o n set k).2.length = k := by
  induction k with
  | zero => exact ⟨rfl, rfl⟩
  | succ k ih => simp [insUp, ih.1, ih.2]
/-- each vertex of the set as far as k has a successor in it -/
def goodIn (n : List (List Int)) (set : List Int) (k : Nat) : Prop := ∀ i, i < k → 0 < (inRow set (gl n (gi set i).toNat)).length
noncomputable def clB (p : Prop) : Bool := @decide p (Classical.propDecidable _)
theorem clB_yes {p : Prop} (h : p) : clB p = true := @decide_eq_true _ (Classical.propDecidable _) h
theorem clB_no {p : Prop} (h : ¬ p) : clB p = false := @decide_eq_false _ (Classical.propDecidable _) h
theorem clB_iff {p : Prop} : clB p = true ↔ p := @decide_eq_true_iff _ (Classical.propDecidable _)
noncomputable def okIns (o : List Int) (n : List (List Int)) (set : List Int) : Bool := arB o n && (setB set o.length && clB (0 < set.length ∧ goodIn n set set.length))
theorem okIns_no1 {o : List Int} {n : List (List Int)} {set : List Int} (h : arB o n = false) : okIns o n set = false := by unfold okIns; rw [h]; rfl
theorem okIns_no2 {o : List Int} {n : List (List Int)} {set : List Int} (h : setB set o.length = false) : okIns o n set = false := by unfold okIns; rw [h]; simp
theorem okIns_no3 {o : List Int} {n : List (List Int)} {set : List Int} (h : ¬ (0 < set.length ∧ goodIn n set set.length)) : okIns o n set = false := by unfold okIns; rw [clB_no h]; simp
theorem okIns_yes {o : List Int} {n : List (List Int)} {set : List Int} (h1 : arB o n = true) (h2 : setB set o.length = true) (h3 : 0 < set.length) (h4 : goodIn n set set.length) : okIns o n set = true := by unfold okIns; rw [h1, h2, clB_yes ⟨h3, h4⟩]; rfl
theorem okIns_parts {o : List Int} {n : List (List Int)} {set : List Int} (h : okIns o n set = true) : arB o n = true ∧ setB set o.length = true ∧ 0 < set.length ∧ goodIn n set set.length := by
  unfold okIns at h
  simp only [Bool.and_eq_true, clB_iff] at h
  exact ⟨h.1, h.2.1, h.2.2.1, h.2.2.2⟩
noncomputable def insA (o : List Int) (n : List (List Int)) (set : List Int) : ArD := if okIns o n set = true then insUp o n set set.length else ([], [])
theorem insA_yes {o : List Int} {n : List (List Int)} {set : List Int} (h : okIns o n set = true) : insA o n set = insUp o n set set.length := if_pos h
theorem insA_no {o : List Int} {n : List (List Int)} {set : List Int} (h : okIns o n set = false) : insA o n set = ([], []) := if_neg (by rw [h]; decide)
/-- the game inside of a set -/
noncomputable def okSub (g : ParD) (set : List Int) : Bool := parB g && okIns g.1 g.2.1 set
def subP (g : ParD) (set : List Int) : List Int := fill (fun i => gi g.2.2 (gi set i).toNat) set.length
noncomputable def subG (g : ParD) (set : List Int) : ParD := if okSub g set = true then ((insUp g.1 g.2.1 set set.length).1, (insUp g.1 g.2.1 set set.length).2, subP g set) else ([], [], [])
theorem subG_yes {g : ParD} {set : List Int} (h : okSub g set = true) : subG g set = ((insUp g.1 g.2.1 set set.length).1, (insUp g.1 g.2.1 set set.length).2, subP g set) := if_pos h
theorem subG_no {g : ParD} {set : List Int} (h : okSub g set = false) : subG g set = ([], [], []) := if_neg (by rw [h]; decide)
theorem okSub_no1 {g : ParD} {set : List Int} (h : parB g = false) : okSub g set = false := by unfold okSub; rw [h]; rfl
theorem okSub_no2 {g : ParD} {set : List Int} (h : okIns g.1 g.2.1 set = false) : okSub g set = false := by unfold okSub; rw [h, Bool.and_false]
theorem okSub_yes {g : ParD} {set : List Int} (h : parB g = true) (h2 : okIns g.1 g.2.1 set = true) : okSub g set = true := by unfold okSub; rw [h, h2]; rfl
/-- what is left -/
noncomputable def restS (g : ParD) (who : Int) : List Int := lessL (allL g.1.length) (attrL g.1 g.2.1 who (allL g.1.length) (setW (loopL g) who))
noncomputable def okRest (g : ParD) (who : Int) : Bool := (parB g && inR who 0 1) && okSub g (restS g who)
noncomputable def restG (g : ParD) (who : Int) : ParD := if okRest g who = true then subG g (restS g who) else ([], [], [])
noncomputable def restL (g : ParD) (who : Int) : List Int := if okRest g who = true then restS g who else []
theorem restS_set (g : ParD) (who : Int) : setB (restS g who) (g.1.length : Int) = true := lessL_set (allL_set _) _
theorem okRest_no1 {g : ParD} {who : Int} (h : (parB g && inR who 0 1) = false) : okRest g who = false := by unfold okRest; rw [h]; rfl
theorem okRest_no2 {g : ParD} {who : Int} (h : okSub g (restS g who) = false) : okRest g who = false := by unfold okRest; rw [h, Bool.and_false]
theorem okRest_yes {g : ParD} {who : Int} (h : (parB g && inR who 0 1) = true) (h2 : okSub g (restS g who) = true) : okRest g who = true := by unfold okRest; rw [h, h2]; rfl
theorem restG_yes {g : ParD} {who : Int} (h : okRest g who = true) : restG g who = subG g (restS g who) := if_pos h
theorem restG_no {g : ParD} {who : Int} (h : okRest g who = false) : restG g who = ([], [], []) := if_neg (by rw [h]; decide)
theorem restL_yes {g : ParD} {who : Int} (h : okRest g who = true) : restL g who = restS g who := if_pos h
theorem restL_no {g : ParD} {who : Int} (h : okRest g who = false) : restL g who = [] := if_neg (by rw [h]; decide)
theorem inRow_len (set row : List Int) : (inRow set row).length ≤ row.length := pick_len _ _ _
theorem insUp_row {o : List Int} {n : List (List Int)} {set : List Int} : ∀ {k i : Nat}, i < k → gl (insUp o n set k).2 i = inRow set (gl n (gi set i).toNat)
  | 0, _, h => absurd h (by omega)
  | k + 1, i, h => by
    have hl := (insUp_len o n set k).2
    by_cases e : i < k
    · show gl ((insUp o n set k).2 ++ [_]) i = _
      rw [gl_app_lt (by omega), insUp_row e]
    · obtain rfl : i = k := by omega
      show gl ((insUp o n set i).2 ++ [_]) i = _
      have h3 := gl_app_eq (cs := (insUp o n set i).2) (v := inRow set (gl n (gi set i).toNat))
      rw [hl] at h3
      exact h3
theorem tot_rows {xs : List (List Int)} {k m : Nat} (h : xs.length = k) (hr : ∀ v, v < k → (gl xs v).length ≤ m) : tot xs ≤ k * m := by
  have key : ∀ j, j ≤ k → tot (xs.take j) ≤ j * m := by
    intro j
    induction j with
    | zero => intro _; simp [tot]
    | succ j ih =>
      intro hj
      have h1 := ih (by omega)
      have h2 := hr j (by omega)
      rw [tot_take (by omega), Nat.succ_mul]
      omega
  have h3 := key k (Nat.le_refl _)
  rwa [List.take_of_length_le (by omega)] at h3
theorem rest_tot (g : ParD) (who : Int) : ptot (restG g who) ≤ 4608 ∧ (restL g who).length ≤ 256 := by
  cases h : okRest g who with
  | false => rw [restG_no h, restL_no h]; exact ⟨by simp [ptot, artot, tot], by simp⟩
  | true =>
    rw [restG_yes h, restL_yes h]
    unfold okRest at h
    simp only [Bool.and_eq_true] at h
    have hs := h.2
    rw [subG_yes hs]
    unfold okSub at hs
    rw [Bool.and_eq_true] at hs
    have hf := (finePar_of hs.1).1
    have hl := set_len (restS_set g who) (by omega)
    have hl2 : (restS g who).length ≤ 256 := by have := hf.2.1; omega
    refine ⟨?_, hl2⟩
    have h1 := insUp_len g.1 g.2.1 (restS g who) (restS g who).length
    have ht : tot (insUp g.1 g.2.1 (restS g who) (restS g who).length).2 ≤ (restS g who).length * 16 := by
      refine tot_rows h1.2 fun v hv => ?_
      rw [insUp_row hv]
      have hb := setB_true.1 (restS_set g who) v hv
      obtain ⟨u, hu⟩ := Int.eq_ofNat_of_zero_le hb.1
      rw [hu]
      have hu2 : u < g.1.length := by have := hb.2.1; omega
      exact Nat.le_trans (inRow_len _ _) (hf.2.2.2 u hu2).2.1.2
    have h3 : (subP g (restS g who)).length = (restS g who).length := fill_len _ _
    unfold ptot artot
    show (insUp _ _ _ _).1.length + tot (insUp _ _ _ _).2 + (subP _ _).length ≤ 4608
    rw [h1.1, h3]; omega
end Go.Proofs.Ytlmhhnplacejkaa
