/- What RestOf speaks of: vertices won at once, a region, the arena inside of a set. Plain. l7HasIn, l12Loop, LoopWon, l7Set; loopWon, RegionOf. -/
import Derived.Test.YtlmhhnplacejkaaOftP
import Derived.Test.YtlmhhnplacejkaaParL
import Derived.Test.YtlmhhnplacejkaaSearch
import Derived.Test.YtlmhhnplacejkaaPlan2
import Derived.Test.YtlmhhnplacejkaaLess
import Derived.Test.YtlmhhnplacejkaaPlan
import Derived.Test.YtlmhhnplacejkaaGame
namespace Go.Proofs.Ytlmhhnplacejkaa
open Go.RowKit

/-- who wins a vertex at once, by itself -/
def loopV (g : ParD) (v : Nat) : Int := if hasL (gl g.2.1 v) (v : Int) = true ∧ (gi g.1 v = gi g.2.2 v % 2 ∨ (gl g.2.1 v).length = 1) then gi g.2.2 v % 2 else -1
def loopL (g : ParD) : List Int := fill (loopV g) g.2.2.length
theorem loopL_len (g : ParD) : (loopL g).length = g.2.2.length := fill_len _ _
/-- those of a list of winners that one wins -/
def setUp (won : List Int) (who : Int) (k : Nat) : List Int := pick (fun i => gi won i == who) (fun i => (i : Int)) k
def setW (won : List Int) (who : Int) : List Int := setUp won who won.length
theorem setUp_len (won : List Int) (who : Int) (k : Nat) : (setUp won who k).length ≤ k := pick_len _ _ _
theorem setUp_yes {won : List Int} {who : Int} {k : Nat} (h : gi won k = who) : setUp won who (k + 1) = setUp won who k ++ [(k : Int)] := pick_yes (by simp [h])
theorem setUp_no {won : List Int} {who : Int} {k : Nat} (h : ¬ gi won k = who) : setUp won who (k + 1) = setUp won who k := pick_no (by simp [h])
theorem setB_grow {xs : List Int} {n x : Int} (h : setB xs n = true) (h0 : 0 ≤ x) (h1 : x < n) (h2 : ∀ y, y ∈ xs → y < x) : setB (xs ++ [x]) n = true := by
  refine setB_true.2 fun i hi => ?_
  rw [List.length_append, List.length_singleton] at hi
  by_cases e : i < xs.length
  · have := setB_true.1 h i e
    refine ⟨by rw [gi_app_lt e]; exact this.1, by rw [gi_app_lt e]; exact this.2.1, fun h3 => ?_⟩
    rw [gi_app_lt e, gi_app_lt (by omega)]
    exact this.2.2 h3
  · obtain rfl : i = xs.length := by omega
    refine ⟨by rw [gi_app_eq]; exact h0, by rw [gi_app_eq]; exact h1, fun h3 => ?_⟩
    rw [gi_app_eq, gi_app_lt (by omega)]
    exact h2 _ (gi_mem (by omega))
theorem pick_setB (p : Nat → Bool) (n : Nat) : ∀ k, k ≤ n → setB (pick p (fun i => (i : Int)) k) (n : Int) = true
  | 0, _ => setB_nil _
  | k + 1, h => by
    have ih := pick_setB p n k (by omega)
    cases e : p k with
    | false => rw [pick_no e]; exact ih
    | true =>
      rw [pick_yes e]
      refine setB_grow ih (by omega) (by omega) fun y hy => ?_
      obtain ⟨i, hi, _, rfl⟩ := mem_pick.1 hy
      omega
theorem setW_set (won : List Int) (who : Int) : setB (setW won who) (won.length : Int) = true := pick_setB _ _ _ (Nat.le_refl _)

/-- where a number stands in a set, -1 for nowhere -/
def placeL (set : List Int) (u : Int) : Int := firstI (fun i => gi set i == u) set.length
theorem placeL_hit {set : List Int} {n : Int} (h : setB set n = true) {k : Nat} (hk : k < set.length) : placeL set (gi set k) = (k : Int) := by
  have hr := rises_set h
  refine firstI_hit (p := fun i => gi set i == gi set k) (by simp) (fun j hj => ?_) hk
  have := hr j k hj hk
  simp; omega
theorem placeL_no {set : List Int} {u : Int} (h : hasL set u = false) : placeL set u = -1 := by
  refine firstI_none fun j hj => ?_
  have : u ∉ set := of_decide_eq_false h
  cases e : gi set j == u with
  | false => rfl
  | true => exact absurd ((beq_iff_eq.1 e) ▸ gi_mem hj) this
theorem placeL_neg {set : List Int} {n : Int} (hs : setB set n = true) {u : Int} : 0 ≤ placeL set u ↔ hasL set u = true := by
  constructor
  · intro h
    cases e : hasL set u with
    | true => rfl
    | false => rw [placeL_no e] at h; omega
  · intro h
    obtain ⟨i, hi, rfl⟩ := mem_gi (of_decide_eq_true h)
    rw [placeL_hit hs hi]; omega
/-- the numbers of a row that are in a set, as their places in it -/
def inUp (set row : List Int) (k : Nat) : List Int := pick (fun j => hasL set (gi row j)) (fun j => placeL set (gi row j)) k
def inRow (set row : List Int) : List Int := inUp set row row.length
theorem inUp_len (set row : List Int) (k : Nat) : (inUp set row k).length ≤ k := pick_len _ _ _
theorem inUp_yes {set row : List Int} {k : Nat} (h : hasL set (gi row k) = true) : inUp set row (k + 1) = inUp set row k ++ [placeL set (gi row k)] := pick_yes h
theorem inUp_no {set row : List Int} {k : Nat} (h : hasL set (gi row k) = false) : inUp set row (k + 1) = inUp set row k := pick_no h
/-- the arena inside of a set, as far as k vertices -/
def insUp (o : List Int) (n : List (List Int)) (set : List Int) : Nat → ArD
  | 0 => ([], [])
  | k + 1 => ((insUp o n set k).1 ++ [gi o (gi set k).toNat], (insUp o n set k).2 ++ [inRow set (gl n (gi set k).toNat)])
theorem insUp_len (o : List Int) (n : List (List Int)) (set : List Int) (k : Nat) : (insUp o n set k).1.length = k ∧ (insUp o n set k).2.length = k := by
  induction k with
  | zero => exact ⟨rfl, rfl⟩
  | succ k ih => simp [insUp, ih.1, ih.2]
/-- each vertex of the set as far as k has a successor in it -/
def goodIn (n : List (List Int)) (set : List Int) (k : Nat) : Prop := ∀ i, i < k → 0 < (inRow set (gl n (gi set i).toNat)).length
noncomputable def clB (p : Prop) : Bool := @decide p (Classical.propDecidable _)
theorem clB_yes {p : Prop} (h : p) : clB p = true := @decide_eq_true _ (Classical.propDecidable _) h
theorem clB_no {p : Prop} (h : ¬ p) : clB p = false := @decide_eq_false _ (Classical.propDecidable _) h
theorem clB_iff {p : Prop} : clB p = true ↔ p := @decide_eq_true_iff _ (Classical.propDecidable _)
noncomputable def okIns (o : List Int) (n : List (List Int)) (set : List Int) : Bool := arB o n && (setB set o.length && clB (0 < set.length ∧ goodIn n set set.length))
theorem okIns_no1 {o : List Int} {n : List (List Int)} {set : List Int} (h : arB o n = false) : okIns o n set = false := by unfold okIns; rw [h]; rfl
theorem okIns_no2 {o : List Int} {n : List (List Int)} {set : List Int} (h : setB set o.length = false) : okIns o n set = false := by unfold okIns; rw [h]; simp
theorem okIns_no3 {o : List Int} {n : List (List Int)} {set : List Int} (h : ¬ (0 < set.length ∧ goodIn n set set.length)) : okIns o n set = false := by unfold okIns; rw [clB_no h]; simp
theorem okIns_yes {o : List Int} {n : List (List Int)} {set : List Int} (h1 : arB o n = true) (h2 : setB set o.length = true) (h3 : 0 < set.length) (h4 : goodIn n set set.length) : okIns o n set = true := by unfold okIns; rw [h1, h2, clB_yes ⟨h3, h4⟩]; rfl
theorem okIns_parts {o : List Int} {n : List (List Int)} {set : List Int} (h : okIns o n set = true) : arB o n = true ∧ setB set o.length = true ∧ 0 < set.length ∧ goodIn n set set.length := by
  unfold okIns at h
  simp only [Bool.and_eq_true, clB_iff] at h
  exact ⟨h.1, h.2.1, h.2.2.1, h.2.2.2⟩
noncomputable def insA (o : List Int) (n : List (List Int)) (set : List Int) : ArD := if okIns o n set = true then insUp o n set set.length else ([], [])
theorem insA_yes {o : List Int} {n : List (List Int)} {set : List Int} (h : okIns o n set = true) : insA o n set = insUp o n set set.length := if_pos h
theorem insA_no {o : List Int} {n : List (List Int)} {set : List Int} (h : okIns o n set = false) : insA o n set = ([], []) := if_neg (by rw [h]; decide)
/-- the game inside of a set -/
noncomputable def okSub (g : ParD) (set : List Int) : Bool := parB g && okIns g.1 g.2.1 set
def subP (g : ParD) (set : List Int) : List Int := fill (fun i => gi g.2.2 (gi set i).toNat) set.length
noncomputable def subG (g : ParD) (set : List Int) : ParD := if okSub g set = true then ((insUp g.1 g.2.1 set set.length).1, (insUp g.1 g.2.1 set set.length).2, subP g set) else ([], [], [])
theorem subG_yes {g : ParD} {set : List Int} (h : okSub g set = true) : subG g set = ((insUp g.1 g.2.1 set set.length).1, (insUp g.1 g.2.1 set set.length).2, subP g set) := if_pos h
theorem subG_no {g : ParD} {set : List Int} (h : okSub g set = false) : subG g set = ([], [], []) := if_neg (by rw [h]; decide)
theorem okSub_no1 {g : ParD} {set : List Int} (h : parB g = false) : okSub g set = false := by unfold okSub; rw [h]; rfl
theorem okSub_no2 {g : ParD} {set : List Int} (h : okIns g.1 g.2.1 set = false) : okSub g set = false := by unfold okSub; rw [h, Bool.and_false]
theorem okSub_yes {g : ParD} {set : List Int} (h : parB g = true) (h2 : okIns g.1 g.2.1 set = true) : okSub g set = true := by unfold okSub; rw [h, h2]; rfl
/-- what is left -/
noncomputable def restS (g : ParD) (who : Int) : List Int := lessL (allL g.1.length) (attrL g.1 g.2.1 who (allL g.1.length) (setW (loopL g) who))
noncomputable def okRest (g : ParD) (who : Int) : Bool := (parB g && inR who 0 1) && okSub g (restS g who)
noncomputable def restG (g : ParD) (who : Int) : ParD := if okRest g who = true then subG g (restS g who) else ([], [], [])
noncomputable def restL (g : ParD) (who : Int) : List Int := if okRest g who = true then restS g who else []
theorem restS_set (g : ParD) (who : Int) : setB (restS g who) (g.1.length : Int) = true := lessL_set (allL_set _) _
theorem okRest_no1 {g : ParD} {who : Int} (h : (parB g && inR who 0 1) = false) : okRest g who = false := by unfold okRest; rw [h]; rfl
theorem okRest_no2 {g : ParD} {who : Int} (h : okSub g (restS g who) = false) : okRest g who = false := by unfold okRest; rw [h, Bool.and_false]
theorem okRest_yes {g : ParD} {who : Int} (h : (parB g && inR who 0 1) = true) (h2 : okSub g (restS g who) = true) : okRest g who = true := by unfold okRest; rw [h, h2]; rfl
theorem restG_yes {g : ParD} {who : Int} (h : okRest g who = true) : restG g who = subG g (restS g who) := if_pos h
theorem restG_no {g : ParD} {who : Int} (h : okRest g who = false) : restG g who = ([], [], []) := if_neg (by rw [h]; decide)
theorem restL_yes {g : ParD} {who : Int} (h : okRest g who = true) : restL g who = restS g who := if_pos h
theorem restL_no {g : ParD} {who : Int} (h : okRest g who = false) : restL g who = [] := if_neg (by rw [h]; decide)
theorem inRow_len (set row : List Int) : (inRow set row).length ≤ row.length := pick_len _ _ _
theorem insUp_row {o : List Int} {n : List (List Int)} {set : List Int} : ∀ {k i : Nat}, i < k → gl (insUp o n set k).2 i = inRow set (gl n (gi set i).toNat)
  | 0, _, h => absurd h (by omega)
  | k + 1, i, h => by
    have hl := (insUp_len o n set k).2
    by_cases e : i < k
    · show gl ((insUp o n set k).2 ++ [_]) i = _
      rw [gl_app_lt (by omega), insUp_row e]
    · obtain rfl : i = k := by omega
      show gl ((insUp o n set i).2 ++ [_]) i = _
      have h3 := gl_app_eq (cs := (insUp o n set i).2) (v := inRow set (gl n (gi set i).toNat))
      rw [hl] at h3
      exact h3
theorem tot_rows {xs : List (List Int)} {k m : Nat} (h : xs.length = k) (hr : ∀ v, v < k → (gl xs v).length ≤ m) : tot xs ≤ k * m := by
  have key : ∀ j, j ≤ k → tot (xs.take j) ≤ j * m := by
    intro j
    induction j with
    | zero => intro _; simp [tot]
    | succ j ih =>
      intro hj
      have h1 := ih (by omega)
      have h2 := hr j (by omega)
      rw [tot_take (by omega), Nat.succ_mul]
      omega
  have h3 := key k (Nat.le_refl _)
  rwa [List.take_of_length_le (by omega)] at h3
theorem rest_tot (g : ParD) (who : Int) : ptot (restG g who) ≤ 4608 ∧ (restL g who).length ≤ 256 := by
  cases h : okRest g who with
  | false => rw [restG_no h, restL_no h]; exact ⟨by simp [ptot, artot, tot], by simp⟩
  | true =>
    rw [restG_yes h, restL_yes h]
    unfold okRest at h
    simp only [Bool.and_eq_true] at h
    have hs := h.2
    rw [subG_yes hs]
    unfold okSub at hs
    rw [Bool.and_eq_true] at hs
    have hf := (finePar_of hs.1).1
    have hl := set_len (restS_set g who) (by omega)
    have hl2 : (restS g who).length ≤ 256 := by have := hf.2.1; omega
    refine ⟨?_, hl2⟩
    have h1 := insUp_len g.1 g.2.1 (restS g who) (restS g who).length
    have ht : tot (insUp g.1 g.2.1 (restS g who) (restS g who).length).2 ≤ (restS g who).length * 16 := by
      refine tot_rows h1.2 fun v hv => ?_
      rw [insUp_row hv]
      have hb := setB_true.1 (restS_set g who) v hv
      obtain ⟨u, hu⟩ := Int.eq_ofNat_of_zero_le hb.1
      rw [hu]
      have hu2 : u < g.1.length := by have := hb.2.1; omega
      exact Nat.le_trans (inRow_len _ _) (hf.2.2.2 u hu2).2.1.2
    have h3 : (subP g (restS g who)).length = (restS g who).length := fill_len _ _
    unfold ptot artot
    show (insUp _ _ _ _).1.length + tot (insUp _ _ _ _).2 + (subP _ _).length ≤ 4608
    rw [h1.1, h3]; omega
end Go.Proofs.Ytlmhhnplacejkaa
namespace Go.Proofs.Ytlmhhnplacejkaa
open Go.RowKit

theorem l7HasIn (A : Option Addr) (n c : Nat) (xs : List Int) (x : Int) (w : World) (ha : RI w A n c xs) :
    Calls Try.prog 182 #[.slice A n c, .int .i64 x] w fun e w' => e = .returned (.bool (hasL xs x)) ∧ Qt w w' := by
  have b1 := ha.cap; have b2 := ha.top
  go_enter Try.func182, Try.ntmps182
  go_wp2
  go_loop [5] (fun i => ∃ k : Nat, k ≤ n ∧ i = .int .i64 k ∧ (∀ j, j < k → gi xs j ≠ x)) (fun i => n - (intOf i).toNat)
  case atStart => exact ⟨0, Nat.zero_le _, rfl, by omega⟩
  case round =>
    obtain ⟨k, hk, rfl, hall⟩ := hrel
    by_cases hlt : k < n
    · obtain ⟨b, off, rfl, hc1⟩ := ha.at_ hlt
      by_cases he : gi xs k = x
      · have H := Lib.hid he
        have hne : (gi xs k == x) = true := by simp [he]
        clear he
        go_wp2
        go_ret
        exact ⟨ret_b (hasL_of ha.1 hlt H.out).symm, Qt.refl _⟩
      · have H := Lib.hid he
        have hne : (gi xs k == x) = false := by simp [he]
        clear he
        go_wp2
        go_round
        case rel => exact ⟨k + 1, by omega, by go_num, all_succ hall H.out⟩
        case measure => simp [intOf]; omega
    · go_wp2
      go_ret
      obtain rfl : k = n := by omega
      exact ⟨ret_b (hasL_no ha.1 hall).symm, Qt.refl _⟩

/-- the facts of a fine game at one vertex -/
theorem fine_at {g : ParD} (hf : finePar g) {v : Nat} (hv : v < g.2.2.length) : v < g.1.length ∧ v < g.2.1.length ∧ (0 ≤ gi g.1 v ∧ gi g.1 v ≤ 1) ∧ (0 ≤ gi g.2.2 v ∧ gi g.2.2 v ≤ 40) ∧ (1 ≤ (gl g.2.1 v).length ∧ (gl g.2.1 v).length ≤ 16) ∧ setB (gl g.2.1 v) g.1.length = true := by
  have h1 := hf.2.1
  have h2 := hf.1.2.2.1
  obtain ⟨k1, k2, k3⟩ := hf.1.2.2.2 v (by omega)
  exact ⟨by omega, by omega, k1, hf.2.2 v hv, k2, k3⟩
theorem loopV_no1 {g : ParD} {v : Nat} (h : hasL (gl g.2.1 v) (v : Int) = false) : loopV g v = -1 := if_neg (by rw [h]; simp)
theorem loopV_no2 {g : ParD} {v : Nat} (h : ¬ gi g.1 v = gi g.2.2 v % 2) (h2 : ¬ (gl g.2.1 v).length = 1) : loopV g v = -1 := if_neg (fun k => k.2.elim h h2)
theorem loopV_own {g : ParD} {v : Nat} (h : hasL (gl g.2.1 v) (v : Int) = true) (h2 : gi g.1 v = gi g.2.2 v % 2) : loopV g v = gi g.2.2 v % 2 := if_pos ⟨h, .inl h2⟩
theorem loopV_one {g : ParD} {v : Nat} (h : hasL (gl g.2.1 v) (v : Int) = true) (h2 : (gl g.2.1 v).length = 1) : loopV g v = gi g.2.2 v % 2 := if_pos ⟨h, .inr h2⟩

set_option maxRecDepth 100000 in
set_option maxHeartbeats 400000 in
theorem l12Loop (s0 s1 s2 : Value) (g : ParD) (v : Nat) (w : World) (B : Nat) (hB : B ≤ w.heap.size) (ha : RPv w s0 s1 s2 g) (hf : finePar g) (hv : v < g.2.2.length) :
    Calls Try.prog 148 #[.agg #[s0, s1, s2], .int .i64 (v : Int)] w fun e w' => e = .returned (.int .i64 (loopV g v)) ∧ Below B w w' := by
  obtain ⟨A0, n0, c0, A1, n1, c1, A2, n2, c2, rfl, rfl, rfl⟩ := ha.form
  obtain ⟨hv0, hv1, hown, hpr, hrl, _⟩ := fine_at hf hv
  have hba : Below w.heap.size w (w.alloc (.cells #[.slice A0 n0 c0, .slice A1 n1 c1, .slice A2 n2 c2] 33)) := below_alloc (Nat.le_refl _) (Below.refl _ _)
  have K := keeps_below hba
  have hr := ha.ri.keep K; have hrr := ha.rii.keep K; have hrp := ha.rp.keep K
  have b1 := hr.cap; have b2 := hr.top; have b3 := hrr.cap; have b4 := hrr.top; have b5 := hrp.cap; have b6 := hrp.top
  have l0 : v < n0 := by rw [← hr.len]; exact hv0
  have l1 : v < n1 := by rw [← hrr.len]; exact hv1
  have l2 : v < n2 := by rw [← hrp.len]; exact hv
  obtain ⟨bo, oo, rfl, hco⟩ := hr.at_ l0
  obtain ⟨bn, on, An, nn, cn, rfl, hcn, rn⟩ := hrr.at_ l1
  obtain ⟨bp, op, rfl, hcp⟩ := hrp.at_ l2
  have d1 := rn.cap; have d2 := rn.top
  have HN := Lib.hid rn.len
  have hnn0 : 1 ≤ nn := by rw [← HN.out]; exact hrl.1
  have i0 : (v : Int) < (n0 : Int) := by omega
  have i1 : (v : Int) < (n1 : Int) := by omega
  have i2 : (v : Int) < (n2 : Int) := by omega
  have iz : (0 : Int) ≤ (v : Int) := by omega
  obtain ⟨p0, p1⟩ := hpr
  clear hr hrr hrp K hf hv0 hv1 hv hown hrl
  cases h1 : hasL (gl g.2.1 v) (v : Int) with
  | false =>
    have E := Lib.hid (loopV_no1 h1)
    have H1 := Lib.hid h1
    clear h1
    go_enter Try.func148, Try.ntmps148
    go_wp2_with fail
    refine (l7HasIn _ _ _ _ _ _ rn).mono ?_; rintro e w1 ⟨rfl, q, rfl⟩
    rw [H1.out]
    go_wp2
    go_ret
    exact ⟨ret_i E.out.symm, below_drewN (hba.mono hB) _⟩
  | true =>
    have H1 := Lib.hid h1
    by_cases h2 : gi g.1 v = gi g.2.2 v % 2
    · have E := Lib.hid (loopV_own h1 h2)
      have hne : (gi g.1 v != gi g.2.2 v % 2) = false := by simp [h2]
      clear h1 h2
      go_enter Try.func148, Try.ntmps148
      go_wp2_with fail
      refine (l7HasIn _ _ _ _ _ _ rn).mono ?_; rintro e w1 ⟨rfl, q, rfl⟩
      rw [H1.out]
      go_wp2
      go_ret
      exact ⟨ret_i E.out.symm, below_drewN (hba.mono hB) _⟩
    · have hne : (gi g.1 v != gi g.2.2 v % 2) = true := by simp [h2]
      by_cases h3 : nn = 1
      · have E := Lib.hid (loopV_one h1 (by rw [HN.out]; exact h3))
        have hg : ¬ (1 : Int) < (nn : Int) := by omega
        clear h1 h2 h3
        go_enter Try.func148, Try.ntmps148
        go_wp2_with fail
        refine (l7HasIn _ _ _ _ _ _ rn).mono ?_; rintro e w1 ⟨rfl, q, rfl⟩
        rw [H1.out]
        go_wp2
        go_ret
        exact ⟨ret_i E.out.symm, below_drewN (hba.mono hB) _⟩
      · have E := Lib.hid (loopV_no2 h2 (by rw [HN.out]; exact h3))
        have hg : (1 : Int) < (nn : Int) := by omega
        clear h1 h2 h3
        go_enter Try.func148, Try.ntmps148
        go_wp2_with fail
        refine (l7HasIn _ _ _ _ _ _ rn).mono ?_; rintro e w1 ⟨rfl, q, rfl⟩
        rw [H1.out]
        go_wp2
        go_ret
        exact ⟨ret_i E.out.symm, below_drewN (hba.mono hB) _⟩

set_option maxRecDepth 100000 in
set_option maxHeartbeats 800000 in
theorem specLoopWon (s0 s1 s2 : Value) (g : ParD) (w : World) (B : Nat) (hB : B ≤ w.heap.size) (ha : RPv w s0 s1 s2 g) (hp : parB g = true) :
    Calls Try.prog 90 #[.agg #[s0, s1, s2]] w fun e w' => ∃ v, e = .returned v ∧ OI 2 w' B v (loopL g) ∧ Below B w w' := by
  obtain ⟨A0, n0, c0, A1, n1, c1, A2, n2, c2, rfl, rfl, rfl⟩ := ha.form
  have hf := finePar_of hp
  have HF := Lib.hid hf
  have HPB := Lib.hid hp
  have hrp := ha.rp
  have b5 := hrp.cap; have b6 := hrp.top
  have HL := Lib.hid hrp.len
  have hn2 : n2 ≤ 256 := by have h1 := hf.1.2.1; have h2 := hf.2.1; rw [HL.out] at h2; omega
  have HE := Lib.hid (show fill (loopV g) n2 = loopL g by unfold loopL; rw [HL.out])
  have bx := (Box.new w 33 #[.slice A0 n0 c0, .slice A1 n1 c1, .slice A2 n2 c2]).alloc (.cells #[] 2)
  have hba : Below w.heap.size w ((w.alloc (.cells #[.slice A0 n0 c0, .slice A1 n1 c1, .slice A2 n2 c2] 33)).alloc (.cells #[] 2)) := below_alloc (Nat.le_refl _) (below_alloc (Nat.le_refl _) (Below.refl _ _))
  have hem : OI 2 ((w.alloc (.cells #[.slice A0 n0 c0, .slice A1 n1 c1, .slice A2 n2 c2] 33)).alloc (.cells #[] 2)) (w.heap.size + 1) (.slice (some ⟨w.heap.size + 1, 0, none⟩) 0 0) [] := by
    have := OI.empty (E := 2) (w := (w.alloc (.cells #[.slice A0 n0 c0, .slice A1 n1 c1, .slice A2 n2 c2] 33))) (B := w.heap.size + 1) (by simp)
    simpa using this
  clear hf hp
  go_enter Try.func90, Try.ntmps90
  go_wp2
  go_loopw [3, 4] (fun v i wr => ∃ k : Nat, k ≤ n2 ∧ i = .int .i64 k ∧ OI 2 wr (w.heap.size + 1) v (fill (loopV g) k) ∧ Box wr w.heap.size 33 #[.slice A0 n0 c0, .slice A1 n1 c1, .slice A2 n2 c2] ∧ Below w.heap.size w wr) (fun _ i _ => n2 - (intOf i).toNat)
  case atStart => exact ⟨0, Nat.zero_le _, rfl, hem, bx, hba⟩
  case round =>
    clear hem bx hba
    obtain ⟨k, hk, rfl, ho, bx, hbr⟩ := hrel
    have hlen := fill_len (loopV g) k
    have q0 := bx.c0; have q1 := bx.c1; have q2 := bx.c2
    by_cases hlt : k < n2
    · have hki : (k : Int) < (n2 : Int) := by omega
      have hk0 : (0 : Int) ≤ (k : Int) := by omega
      have HX := Lib.hid (fill_succ (loopV g) k)
      have hlen2 : (fill (loopV g) k).length ≤ 4194304 := by omega
      clear hlen
      go_wp2_with fail
      refine (specParityOk _ _ _ g _ _ (Nat.le_refl _) (ha.keep (keeps_below hbr))).mono ?_; rintro e w1 ⟨rfl, hb1⟩
      rw [HPB.out]
      have bx1 := bx.on hb1
      have ho1 := ho.below hb1
      have hw1 := below_then hb1 hbr.size hbr
      clear q0 q1 q2 ho bx
      have q0 := bx1.c0; have q1 := bx1.c1; have q2 := bx1.c2
      go_wp2_with fail
      refine (l12Loop _ _ _ g k _ _ (Nat.le_refl _) (ha.keep (keeps_below hw1)) HF.out (by rw [HL.out]; exact hlt)).mono ?_; rintro e w2 ⟨rfl, hb2⟩
      have bx2 := bx1.on hb2
      have ho2 := ho1.below hb2
      have hw2 := below_then hb2 hw1.size hw1
      have hsz : w.heap.size + 1 ≤ w2.heap.size := bx2.lt
      clear q0 q1 q2 ho1 bx1
      go_wp2_with (at_builtin; refine wpList_pushI rfl (.tmp 17) (.tmp 21) rfl _ (w.heap.size + 1) u3 (fill (loopV g) k) (by rfl) ho2 _ (by rfl) hlen2 hsz ?_; intro v3 w3 ho3 hb3 hc3 hat3)
      have hw3 := hw2.trans (hb3.mono (Nat.le_succ _))
      have bx3 : Box w3 w.heap.size 33 #[.slice A0 n0 c0, .slice A1 n1 c1, .slice A2 n2 c2] := (hb3.block _ (by omega)).trans bx2
      go_wp2
      go_roundw
      case rel => exact ⟨k + 1, by omega, by go_num, by rw [HX.out]; exact ho3, bx3, hw3⟩
      case measure => simp [intOf]; omega
    · obtain rfl : k = n2 := by omega
      go_wp2_with fail
      refine (specParityOk _ _ _ g _ _ (Nat.le_refl _) (ha.keep (keeps_below hbr))).mono ?_; rintro e w1 ⟨rfl, hb1⟩
      rw [HPB.out]
      have bx1 := bx.on hb1
      have ho1 := ho.below hb1
      have hw1 := below_then hb1 hbr.size hbr
      clear q0 q1 q2 ho bx
      have q0 := bx1.c0; have q1 := bx1.c1; have q2 := bx1.c2
      go_wp2
      go_ret
      exact ⟨_, rfl, by rw [← HE.out]; exact ho1.more (by omega), hw1.mono hB⟩

set_option maxRecDepth 100000 in
theorem l7Set (A : Option Addr) (n c : Nat) (won : List Int) (who : Int) (w : World) (B : Nat) (hB : B ≤ w.heap.size) (ha : RI w A n c won) (hn : n ≤ 1048576) :
    Calls Try.prog 89 #[.slice A n c, .int .i64 who] w fun e w' => ∃ v, e = .returned v ∧ OI 2 w' B v (setW won who) ∧ Below B w w' := by
  have b1 := ha.cap; have b2 := ha.top
  have HL := Lib.hid ha.len
  go_enter Try.func89, Try.ntmps89
  go_wp2
  go_loopw [5, 6] (fun v i wr => ∃ k : Nat, k ≤ n ∧ i = .int .i64 k ∧ OI 2 wr w.heap.size v (setUp won who k) ∧ Below w.heap.size w wr) (fun _ i _ => n - (intOf i).toNat)
  case atStart => exact ⟨0, Nat.zero_le _, rfl, OI.empty (Nat.le_refl _), by repeat (first | with_reducible assumption | with_reducible exact Below.refl _ _ | with_reducible refine below_drewN ?_ _ | with_reducible refine Below.drew ?_ | with_reducible refine below_alloc (Nat.le_refl _) ?_)⟩
  case round =>
    obtain ⟨k, hk, rfl, ho, hbr⟩ := hrel
    have hup := setUp_len won who k
    have hsz := hbr.size
    by_cases hlt : k < n
    · obtain ⟨bb, off, rfl, hc⟩ := (ha.keep (keeps_below hbr)).at_ hlt
      have hki : (k : Int) < (n : Int) := by omega
      by_cases he : gi won k = who
      · have HX := Lib.hid (setUp_yes he)
        have hne : (gi won k == who) = true := by simp [he]
        clear he
        go_wp2_with (at_builtin; refine wpList_pushI rfl (.tmp 20) (.tmp 22) rfl _ w.heap.size u5 (setUp won who k) (by rfl) ho _ (by rfl) (by omega) hsz ?_; intro v3 w3 ho3 hb3 hc3 hat3)
        go_wp2
        go_roundw
        case rel => exact ⟨k + 1, by omega, by go_num, by rw [HX.out]; exact ho3, hbr.trans hb3⟩
        case measure => simp [intOf]; omega
      · have HX := Lib.hid (setUp_no he)
        have hne : (gi won k == who) = false := by simp [he]
        clear he
        go_wp2
        go_roundw
        case rel => exact ⟨k + 1, by omega, by go_num, by rw [HX.out]; exact ho, hbr⟩
        case measure => simp [intOf]; omega
    · obtain rfl : k = n := by omega
      have HE := Lib.hid (show setUp won who k = setW won who by unfold setW; rw [HL.out])
      go_wp2
      go_ret
      exact ⟨_, rfl, by rw [← HE.out]; exact ho.more hB, hbr.mono hB⟩

set_option maxRecDepth 100000 in
set_option maxHeartbeats 400000 in
theorem regionOf (A C : Option Addr) (n c m d : Nat) (won : List Int) (who : Int) (w : World) (B : Nat) (hB : B ≤ w.heap.size) (ha : RI w A n c won) (hn : n ≤ 256) :
    Calls Try.prog 95 #[.agg #[.slice A n c, .slice C m d], .int .i64 who] w fun e w' => ∃ v, e = .returned v ∧ OI 2 w' B v (setW won who) ∧ Below B w w' := by
  have b1 := ha.cap; have b2 := ha.top
  have HL := Lib.hid ha.len
  have hba : Below w.heap.size w ((w.alloc (.cells #[.slice A n c, .slice C m d] 65)).alloc (.cells #[] 2)) := below_alloc (Nat.le_refl _) (below_alloc (Nat.le_refl _) (Below.refl _ _))
  have bx := (Box.new w 65 #[.slice A n c, .slice C m d])
  have q0 := bx.d0; have q1 := bx.d1
  have hem : OI 2 ((w.alloc (.cells #[.slice A n c, .slice C m d] 65)).alloc (.cells #[] 2)) w.heap.size (.slice (some ⟨w.heap.size + 1, 0, none⟩) 0 0) [] := by
    have := OI.empty (E := 2) (w := (w.alloc (.cells #[.slice A n c, .slice C m d] 65))) (B := w.heap.size) (by simp)
    simpa using this
  have hng : ¬ (256 : Int) < (n : Int) := by omega
  go_enter Try.func95, Try.ntmps95
  go_wp2
  go_loopw [5, 16] (fun v i wr => ∃ k : Nat, k ≤ n ∧ i = .int .i64 k ∧ OI 2 wr w.heap.size v (setUp won who k) ∧ Below w.heap.size w wr) (fun _ i _ => n - (intOf i).toNat)
  case atStart => exact ⟨0, Nat.zero_le _, rfl, hem, hba⟩
  case round =>
    clear hem hba q0 q1 bx
    obtain ⟨k, hk, rfl, ho, hbr⟩ := hrel
    have hup := setUp_len won who k
    have hsz := hbr.size
    by_cases hlt : k < n
    · obtain ⟨bb, off, rfl, hc⟩ := (ha.keep (keeps_below hbr)).at_ hlt
      have hki : (k : Int) < (n : Int) := by omega
      by_cases he : gi won k = who
      · have HX := Lib.hid (setUp_yes he)
        have hne : (gi won k == who) = true := by simp [he]
        clear he
        go_wp2_with (at_builtin; refine wpList_pushI rfl (.tmp 24) (.tmp 26) rfl _ w.heap.size u5 (setUp won who k) (by rfl) ho _ (by rfl) (by omega) hsz ?_; intro v3 w3 ho3 hb3 hc3 hat3)
        go_wp2
        go_roundw
        case rel => exact ⟨k + 1, by omega, by go_num, by rw [HX.out]; exact ho3, hbr.trans hb3⟩
        case measure => simp [intOf]; omega
      · have HX := Lib.hid (setUp_no he)
        have hne : (gi won k == who) = false := by simp [he]
        clear he
        go_wp2
        go_roundw
        case rel => exact ⟨k + 1, by omega, by go_num, by rw [HX.out]; exact ho, hbr⟩
        case measure => simp [intOf]; omega
    · obtain rfl : k = n := by omega
      have HE := Lib.hid (show setUp won who k = setW won who by unfold setW; rw [HL.out])
      go_wp2
      go_ret
      exact ⟨_, rfl, by rw [← HE.out]; exact ho.more hB, hbr.mono hB⟩

set_option maxRecDepth 100000 in
set_option maxHeartbeats 1600000 in
theorem implLoopWon (s0 s1 s2 : Value) (g : ParD) (w : World) (B : Nat) (hB : B ≤ w.heap.size) (ha : RPv w s0 s1 s2 g) (hf : finePar g) :
    Calls Try.prog 96 #[.agg #[s0, s1, s2]] w fun e w' => ∃ v, e = .returned v ∧ OI 2 w' B v (loopL g) ∧ Below B w w' := by
  obtain ⟨A0, n0, c0, A1, n1, c1, A2, n2, c2, rfl, rfl, rfl⟩ := ha.form
  have HF := Lib.hid hf
  have hr := ha.ri; have hrr := ha.rii; have hrp := ha.rp
  have b1 := hr.cap; have b2 := hr.top; have b3 := hrr.cap; have b4 := hrr.top; have b5 := hrp.cap; have b6 := hrp.top
  have HL := Lib.hid hr.len; have HM := Lib.hid hrr.len; have HP := Lib.hid hrp.len
  have hn0 : 1 ≤ n0 ∧ n0 ≤ 256 := by have h1 := hf.1.2.1; have h2 := hf.1.1; rw [HL.out] at h1 h2; exact ⟨h2, h1⟩
  have H10 := Lib.hid (show n1 = n0 by have h1 := hf.1.2.2.1; rw [HL.out, HM.out] at h1; exact h1)
  have H20 := Lib.hid (show n2 = n0 by have h1 := hf.2.1; rw [HL.out, HP.out] at h1; exact h1)
  obtain ⟨hna, hnb⟩ := hn0
  have bx := (Box.new w 33 #[.slice A0 n0 c0, .slice A1 n1 c1, .slice A2 n2 c2])
  have hba : Below w.heap.size w (w.alloc (.cells #[.slice A0 n0 c0, .slice A1 n1 c1, .slice A2 n2 c2] 33)) := below_alloc (Nat.le_refl _) (Below.refl _ _)
  have q0 := bx.c0; have q1 := bx.c1; have q2 := bx.c2
  clear hf
  go_enter Try.func96, Try.ntmps96
  go_wp2_with fail
  refine (noPlan _ _ _ _ _ _ _ _ (Nat.le_refl _) (by omega)).mono ?_; rintro e w1 ⟨v1, rfl, ho1, hb1⟩
  have hw1 := below_then hb1 hba.size hba
  have bx1 := bx.on hb1
  have hal : (negL n0).length = n0 := fill_len _ _
  obtain ⟨ga, ca, e1⟩ := ho1.form2 (by rw [hal]; exact hna)
  rw [hal] at e1
  subst e1
  replace ho1 := ho1.more (lo' := w.heap.size + 1) (by simp)
  clear hal q0 q1 q2 hba bx hb1
  have q0 := bx1.c0; have q1 := bx1.c1; have q2 := bx1.c2
  go_wp2
  go_loopw [14] (fun i wr => ∃ k : Nat, k ≤ n1 ∧ i = .int .i64 k ∧ OI 2 wr (w.heap.size + 1) (.slice (some ⟨ga, 0, none⟩) n0 ca) (fillUp (loopV g) n0 (fun _ => -1) k) ∧ Box wr w.heap.size 33 #[.slice A0 n0 c0, .slice A1 n1 c1, .slice A2 n2 c2] ∧ Below w.heap.size w wr) (fun i _ => n1 - (intOf i).toNat)
  case atStart => exact ⟨0, Nat.zero_le _, rfl, by rw [fillUp_zero]; exact ho1, bx1, hw1⟩
  case round =>
    clear ho1 bx1 hw1 q0 q1 q2
    obtain ⟨k, hk, rfl, ho, bxr, hbr⟩ := hrel
    have HO := Lib.hid ho
    clear ho
    by_cases hlt : k < n1
    · have l0 : k < n0 := by have := H10.out; omega
      have l2 : k < n2 := by have := H20.out; omega
      have K := keeps_below hbr
      obtain ⟨bo, oo, rfl, hco⟩ := (hr.keep K).at_ l0
      obtain ⟨bn, on, An, nn, cn, rfl, hcn, rn⟩ := (hrr.keep K).at_ hlt
      obtain ⟨bp, op, rfl, hcp⟩ := (hrp.keep K).at_ l2
      obtain ⟨_, _, hown, ⟨p0, p1⟩, hrl, _⟩ := fine_at HF.out (v := k) (by rw [HP.out]; exact l2)
      have d1 := rn.cap; have d2 := rn.top
      have HN := Lib.hid rn.len
      have i0 : (k : Int) < (n0 : Int) := by omega
      have i1 : (k : Int) < (n1 : Int) := by omega
      have i2 : (k : Int) < (n2 : Int) := by omega
      have iz : (0 : Int) ≤ (k : Int) := by omega
      have q0 := bxr.c0; have q1 := bxr.c1; have q2 := bxr.c2
      have Y := Lib.hid (fillUp_put (f := loopV g) (g := fun _ => -1) l0)
      have hcm := HO.out.cellAt (i := k) (by rw [fillUp_len]; exact l0)
      have hfz := HO.out.hot (i := k) (by rw [fillUp_len])
      have hgl : w.heap.size + 1 ≤ ga := (HO.out.lt ga rfl).1
      clear hrl hown
      cases h1 : hasL (gl g.2.1 k) (k : Int) with
      | false =>
        have E := Lib.hid (fillUp_same (f := loopV g) (g := fun _ => -1) (n := n0) (k := k) (loopV_no1 h1))
        have H1 := Lib.hid h1
        clear h1
        go_wp2_with fail
        refine (slContains _ _ _ _ _ _ rn).mono ?_; rintro e w2 ⟨rfl, q, rfl⟩
        rw [H1.out]
        go_wp2
        exact ⟨⟨k + 1, by omega, by go_num, by rw [E.out]; exact HO.out.drewN _, bxr.drewN _, below_drewN hbr _⟩, by simp [intOf]; omega⟩
      | true =>
        have H1 := Lib.hid h1
        by_cases h2 : gi g.1 k = gi g.2.2 k % 2
        · have E := Lib.hid (loopV_own h1 h2)
          have hne : (gi g.1 k == gi g.2.2 k % 2) = true := by simp [h2]
          clear h1 h2
          go_wp2_with fail
          refine (slContains _ _ _ _ _ _ rn).mono ?_; rintro e w2 ⟨rfl, q, rfl⟩
          rw [H1.out]
          go_wp2
          exact ⟨⟨k + 1, by omega, by go_num, by rw [← Y.out, E.out]; exact HO.out.set_ (by rw [fillUp_len]) _, bxr.far (by show w.heap.size ≠ ga; omega) _, below_set (by show w.heap.size ≤ ga; omega) (below_drewN hbr _)⟩, by simp [intOf]; omega⟩
        · have hne : (gi g.1 k == gi g.2.2 k % 2) = false := by simp [h2]
          by_cases h3 : nn = 1
          · have E := Lib.hid (loopV_one h1 (by rw [HN.out]; exact h3))
            have hg : ((nn : Int) == 1) = true := by simp; omega
            clear h1 h2 h3
            go_wp2_with fail
            refine (slContains _ _ _ _ _ _ rn).mono ?_; rintro e w2 ⟨rfl, q, rfl⟩
            rw [H1.out]
            go_wp2
            exact ⟨⟨k + 1, by omega, by go_num, by rw [← Y.out, E.out]; exact HO.out.set_ (by rw [fillUp_len]) _, bxr.far (by show w.heap.size ≠ ga; omega) _, below_set (by show w.heap.size ≤ ga; omega) (below_drewN hbr _)⟩, by simp [intOf]; omega⟩
          · have E := Lib.hid (fillUp_same (f := loopV g) (g := fun _ => -1) (n := n0) (k := k) (loopV_no2 h2 (by rw [HN.out]; exact h3)))
            have hg : ((nn : Int) == 1) = false := by simp; omega
            clear h1 h2 h3
            go_wp2_with fail
            refine (slContains _ _ _ _ _ _ rn).mono ?_; rintro e w2 ⟨rfl, q, rfl⟩
            rw [H1.out]
            go_wp2
            exact ⟨⟨k + 1, by omega, by go_num, by rw [E.out]; exact HO.out.drewN _, bxr.drewN _, below_drewN hbr _⟩, by simp [intOf]; omega⟩
    · obtain rfl : k = n1 := by omega
      have Y := Lib.hid (show fillUp (loopV g) n0 (fun _ => -1) k = loopL g by rw [H10.out, fillUp_full]; unfold loopL; rw [HP.out, H20.out])
      go_wp2
      go_ret
      exact ⟨_, rfl, by rw [← Y.out]; exact HO.out.more (by omega), hbr.mono hB⟩
end Go.Proofs.Ytlmhhnplacejkaa
