/- NeededPairs: copyPair, samePair, slices.ContainsFunc over pairs; NeededPairs, spec and impl. -/
import Derived.Test.YtfjhkjikfjpnpaaPairsOnF
import Derived.Test.YtfjhkjikfjpnpaaTwo
import Derived.Test.YtfjhkjikfjpnpaaPlaces
import Derived.Test.YtfjhkjikfjpnpaaAcc
import Derived.Test.YtfjhkjikfjpnpaaUse
import Derived.Test.YtfjhkjikfjpnpaaApp2
import Derived.Deep.RegionHeld3
namespace Go.Proofs.Ytfjhkjikfjpnpaa
open Go.RowKit

def eqPD (p q : PairD) : Bool := eqL p.1 q.1 && eqL p.2 q.2
theorem eqL_comm (x y : List Int) : eqL x y = eqL y x := by unfold eqL; exact decide_eq_decide.2 ⟨Eq.symm, Eq.symm⟩
theorem eqPD_comm (p q : PairD) : eqPD p q = eqPD q p := by unfold eqPD; rw [eqL_comm p.1, eqL_comm p.2]
/-- does the set hold what the other lacks: as far as k -/
def outUp (a b : List Int) : Nat → Bool
  | 0 => false
  | k + 1 => outUp a b k || !hasL b (gi a k)
theorem outUp_pos (a b : List Int) : ∀ k, outUp a b k = decide (0 < (lessUp a b k).length)
  | 0 => rfl
  | k + 1 => by
    rw [outUp, outUp_pos a b k]
    unfold lessUp
    cases e : hasL b (gi a k) with
    | true => rw [pick_no (by rw [e]; rfl)]; simp
    | false => rw [pick_yes (by rw [e]; rfl)]; simp
/-- is the i-th unlike all before the k-th -/
def newUp (ps : List PairD) (i : Nat) : Nat → Bool
  | 0 => true
  | k + 1 => newUp ps i k && !eqPD (gp ps k) (gp ps i)
theorem newUp_first (ps : List PairD) (i : Nat) : ∀ k, newUp ps i k = !decide (0 ≤ firstI (fun j => eqPD (gp ps i) (gp ps j)) k)
  | 0 => by simp [newUp, firstI]
  | k + 1 => by
    rw [newUp, newUp_first ps i k, firstI, eqPD_comm (gp ps k)]
    by_cases h : firstI (fun j => eqPD (gp ps i) (gp ps j)) k = -1
    · rw [if_pos h, h]
      cases e : eqPD (gp ps i) (gp ps k) with
      | true => simp
      | false => simp
    · rw [if_neg h]
      have := firstI_ge (fun j => eqPD (gp ps i) (gp ps j)) k
      rw [decide_eq_true (by omega)]
      simp
def neededB (ps : List PairD) (i : Nat) : Bool := outUp (gp ps i).1 (gp ps i).2 (gp ps i).1.length && newUp ps i i
def neededUp (ps : List PairD) : Nat → List PairD
  | 0 => []
  | k + 1 => if neededB ps k = true then neededUp ps k ++ [((gp ps k).1, (gp ps k).2)] else neededUp ps k
theorem neededUp_yes {ps : List PairD} {k : Nat} (h : neededB ps k = true) : neededUp ps (k + 1) = neededUp ps k ++ [((gp ps k).1, (gp ps k).2)] := by rw [neededUp, if_pos h]
theorem neededUp_no {ps : List PairD} {k : Nat} (h : neededB ps k = false) : neededUp ps (k + 1) = neededUp ps k := by rw [neededUp, if_neg (by rw [h]; decide)]
theorem neededUp_len (ps : List PairD) : ∀ k, (neededUp ps k).length ≤ k
  | 0 => Nat.le_refl _
  | k + 1 => by
    have := neededUp_len ps k
    rw [neededUp]
    split
    · rw [List.length_append, List.length_singleton]; omega
    · omega
theorem neededUp_tot (ps : List PairD) {m : Nat} (h : ∀ i, szP (gp ps i) ≤ m) : ∀ k, totP (neededUp ps k) ≤ k * m
  | 0 => by simp [neededUp, totP]
  | k + 1 => by
    have ih := neededUp_tot ps h k
    rw [neededUp, Nat.succ_mul]
    split
    · unfold totP at ih ⊢
      rw [List.map_append, List.sum_append]
      have := h k
      simp only [List.map_cons, List.map_nil, List.sum_cons, List.sum_nil]
      have e : szP ((gp ps k).1, (gp ps k).2) = szP (gp ps k) := rfl
      omega
    · omega
noncomputable def neededR (ps : List PairD) : List PairD := if pairsB ps 256 = true then neededUp ps ps.length else []
theorem neededR_tot (ps : List PairD) : totP (neededR ps) ≤ 8388608 := by
  unfold neededR
  split
  · rename_i h
    have h1 := finePs_of h (by omega) (by omega)
    have key : ∀ i, szP (gp ps i) ≤ 2097152 := by
      intro i
      rcases Nat.lt_or_ge i ps.length with hi | hi
      · have := (h1.2 i hi).2.2
        unfold szP
        omega
      · unfold gp
        rw [List.getD_eq_getElem?_getD, List.getElem?_eq_none hi]
        simp [szP]
    have := neededUp_tot ps key ps.length
    have := h1.1
    omega
  · simp [totP]



set_option maxRecDepth 100000 in
set_option maxHeartbeats 400000 in
theorem samePair (A1 A2 A3 A4 : Option Addr) (n1 n2 n3 n4 c1 c2 c3 c4 : Nat) (p q : PairD) (w : World) (B : Nat) (hB : B ≤ w.heap.size) (h1 : RI w A1 n1 c1 p.1) (h2 : RI w A2 n2 c2 p.2) (h3 : RI w A3 n3 c3 q.1) (h4 : RI w A4 n4 c4 q.2) :
    Calls Try.prog 84 #[.agg #[.slice A1 n1 c1, .slice A2 n2 c2], .agg #[.slice A3 n3 c3, .slice A4 n4 c4]] w fun e w' => e = .returned (.bool (eqPD p q)) ∧ Below B w w' := by
  have hba : Below w.heap.size w ((w.alloc (.cells #[.slice A1 n1 c1, .slice A2 n2 c2] 92)).alloc (.cells #[.slice A3 n3 c3, .slice A4 n4 c4] 92)) := below_alloc (Nat.le_refl _) (below_alloc (Nat.le_refl _) (Below.refl _ _))
  have bx := (Box.new w 92 #[.slice A1 n1 c1, .slice A2 n2 c2]).alloc (.cells #[.slice A3 n3 c3, .slice A4 n4 c4] 92)
  have by' : Box ((w.alloc (.cells #[.slice A1 n1 c1, .slice A2 n2 c2] 92)).alloc (.cells #[.slice A3 n3 c3, .slice A4 n4 c4] 92)) (w.heap.size + 1) 92 #[.slice A3 n3 c3, .slice A4 n4 c4] := Box.new' (by simp)
  have q0 := bx.d0P; have q1 := bx.d1P; have q2 := by'.d0P; have q3 := by'.d1P
  have k1 := h1.keep (keeps_below hba); have k2 := h2.keep (keeps_below hba); have k3 := h3.keep (keeps_below hba); have k4 := h4.keep (keeps_below hba)
  cases e1 : eqL p.1 q.1 with
  | false =>
    have E := Lib.hid (show eqPD p q = false by unfold eqPD; rw [e1]; rfl)
    go_enter Try.func84, Try.ntmps84
    go_wp2_with fail
    refine (slicesEqual _ _ _ _ _ _ _ _ _ k1 k3).mono ?_; rintro e w1 ⟨rfl, q, rfl⟩
    rw [e1]
    go_wp2
    go_ret
    exact ⟨ret_b E.out.symm, below_drewN (hba.mono hB) _⟩
  | true =>
    have E := Lib.hid (show eqPD p q = eqL p.2 q.2 by unfold eqPD; rw [e1]; rfl)
    go_enter Try.func84, Try.ntmps84
    go_wp2_with fail
    refine (slicesEqual _ _ _ _ _ _ _ _ _ k1 k3).mono ?_; rintro e w1 ⟨rfl, q, rfl⟩
    rw [e1]
    go_wp2_with fail
    refine (slicesEqual _ _ _ _ _ _ _ _ _ (k2.keep (Qt.keeps ⟨_, rfl⟩)) (k4.keep (Qt.keeps ⟨_, rfl⟩))).mono ?_; rintro e w2 ⟨rfl, q2', rfl⟩
    go_wp2
    go_ret
    exact ⟨ret_b E.out.symm, by repeat (first | with_reducible exact hba.mono hB | with_reducible refine below_drewN ?_ _)⟩


set_option maxRecDepth 100000 in
theorem neededFn (A1 A2 A3 A4 : Option Addr) (n1 n2 n3 n4 c1 c2 c3 c4 : Nat) (p q : PairD) (bp : Nat) (w : World) (B : Nat) (hB : B ≤ w.heap.size) (hp : Box w bp 92 #[.slice A1 n1 c1, .slice A2 n2 c2]) (h1 : RI w A1 n1 c1 p.1) (h2 : RI w A2 n2 c2 p.2) (h3 : RI w A3 n3 c3 q.1) (h4 : RI w A4 n4 c4 q.2) :
    Calls Try.prog 83 #[.agg #[.slice A3 n3 c3, .slice A4 n4 c4], .pointer (some ⟨bp, 0, none⟩)] w fun e w' => e = .returned (.bool (eqPD p q)) ∧ Below B w w' := by
  have hba : Below w.heap.size w (w.alloc (.cells #[.slice A3 n3 c3, .slice A4 n4 c4] 92)) := below_alloc (Nat.le_refl _) (Below.refl _ _)
  have bx := hp.alloc (.cells #[.slice A3 n3 c3, .slice A4 n4 c4] 92)
  have by' := Box.new w 92 #[.slice A3 n3 c3, .slice A4 n4 c4]
  have q0 := bx.d0P; have q1 := bx.d1P; have q2 := by'.d0P; have q3 := by'.d1P
  go_enter Try.func83, Try.ntmps83
  go_wp2_with fail
  refine (samePair _ _ _ _ _ _ _ _ _ _ _ _ _ _ _ _ (Nat.le_refl _) (h1.keep (keeps_below hba)) (h2.keep (keeps_below hba)) (h3.keep (keeps_below hba)) (h4.keep (keeps_below hba))).mono ?_; rintro e w1 ⟨rfl, hb1⟩
  go_wp2
  go_ret
  exact ⟨rfl, (below_then hb1 hba.size hba).mono hB⟩
theorem neededFn_enter (args : Array Value) (w : World) : (callFunc 83 args).run Try.prog w = .ok (.enter 83 args) w := by kernel_rfl

set_option maxRecDepth 100000 in
set_option maxHeartbeats 400000 in
theorem indexPair (pr : PairD → Bool) (f : FuncId) (cap : Array Value) (A : Option Addr) (n c : Nat) (ps : List PairD) (w : World) (B : Nat) (hB : B ≤ w.heap.size) (ha : RPS w A n c ps)
    (hcf : ∀ (args : Array Value) (w : World), (callFunc f args).run Try.prog w = .ok (.enter f args) w)
    (hk : ∀ (w' : World) (A1 A2 : Option Addr) (n1 n2 c1 c2 : Nat) (q : PairD), Below w.heap.size w w' → RI w' A1 n1 c1 q.1 → RI w' A2 n2 c2 q.2 → Calls Try.prog f (#[.agg #[.slice A1 n1 c1, .slice A2 n2 c2]] ++ cap) w' fun e w'' => e = .returned (.bool (pr q)) ∧ Below w'.heap.size w' w'') :
    Calls Try.prog 159 #[.slice A n c, .func (.func f) #[] cap] w fun e w' => e = .returned (.int .i64 (firstI (fun j => pr (gp ps j)) n)) ∧ Below B w w' := by
  have b1 := ha.cap; have b2 := ha.top
  have HK := Lib.hid hk
  clear hk
  go_enter Try.func159, Try.ntmps159
  go_wp2
  go_loopw [8] (fun i wr => ∃ k : Nat, k ≤ n ∧ i = .int .i64 k ∧ (∀ j, j < k → pr (gp ps j) = false) ∧ Below w.heap.size w wr) (fun i _ => n - (intOf i).toNat)
  case atStart => exact ⟨0, Nat.zero_le _, rfl, by omega, Below.refl _ _⟩
  case round =>
    obtain ⟨k, hk, rfl, hall, hbr⟩ := hrel
    have HA := Lib.hid hall
    clear hall
    have K := keeps_below hbr
    by_cases hlt : k < n
    · obtain ⟨b, off, A1, n1, c1, A2, n2, c2, rfl, hc1, hc2, r1, r2⟩ := (ha.keep K).at_ hlt
      have hcall := HK.out wr A1 A2 n1 n2 c1 c2 (gp ps k) hbr r1 r2
      clear K
      cases h1 : pr (gp ps k) with
      | true =>
        rw [h1] at hcall
        have E := Lib.hid (show firstI (fun j => pr (gp ps j)) n = (k : Int) from firstI_hit h1 HA.out hlt)
        clear h1
        go_wp2_with fail
        refine hcall.mono ?_; rintro e w1 ⟨rfl, hb1⟩
        go_wp2
        go_ret
        exact ⟨ret_i E.out.symm, (below_then hb1 hbr.size hbr).mono hB⟩
      | false =>
        rw [h1] at hcall
        have H1 := Lib.hid h1
        clear h1
        go_wp2_with fail
        refine hcall.mono ?_; rintro e w1 ⟨rfl, hb1⟩
        go_wp2
        go_roundw
        case rel => exact ⟨k + 1, by omega, by go_num, all_succ HA.out H1.out, below_then hb1 hbr.size hbr⟩
        case measure => simp [intOf]; omega
    · obtain rfl : k = n := by omega
      have E := Lib.hid (show firstI (fun j => pr (gp ps j)) k = -1 from firstI_none HA.out)
      go_wp2
      go_ret
      exact ⟨ret_i E.out.symm, hbr.mono hB⟩

set_option maxRecDepth 100000 in
theorem containsPair (pr : PairD → Bool) (f : FuncId) (cap : Array Value) (A : Option Addr) (n c : Nat) (ps : List PairD) (w : World) (B : Nat) (hB : B ≤ w.heap.size) (ha : RPS w A n c ps)
    (hcf : ∀ (args : Array Value) (w : World), (callFunc f args).run Try.prog w = .ok (.enter f args) w)
    (hk : ∀ (w' : World) (A1 A2 : Option Addr) (n1 n2 c1 c2 : Nat) (q : PairD), Below w.heap.size w w' → RI w' A1 n1 c1 q.1 → RI w' A2 n2 c2 q.2 → Calls Try.prog f (#[.agg #[.slice A1 n1 c1, .slice A2 n2 c2]] ++ cap) w' fun e w'' => e = .returned (.bool (pr q)) ∧ Below w'.heap.size w' w'') :
    Calls Try.prog 82 #[.slice A n c, .func (.func f) #[] cap] w fun e w' => e = .returned (.bool (decide (0 ≤ firstI (fun j => pr (gp ps j)) n))) ∧ Below B w w' := by
  have HK := Lib.hid hk
  clear hk
  go_enter Try.func82, Try.ntmps82
  go_wp2_with fail
  refine (indexPair pr f cap _ _ _ ps _ _ hB ha hcf HK.out).mono ?_; rintro e w1 ⟨rfl, hb1⟩
  go_wp2
  go_ret
  exact ⟨rfl, hb1⟩


theorem OI.box0 {w : World} {e lo : Nat} (h : Box w e 2 #[]) (hl : lo ≤ e) : OI 2 w lo (.slice (some ⟨e, 0, none⟩) 0 0) [] := by
  refine ⟨rfl, .inr ⟨e, 0, #[], rfl, hl, h, Nat.le_refl _, by decide, ?_, ?_⟩⟩ <;> simp


set_option maxRecDepth 100000 in
set_option maxHeartbeats 1600000 in
theorem copyPair (A1 A2 : Option Addr) (n1 c1 n2 c2 : Nat) (p : PairD) (w : World) (B : Nat) (hB : B ≤ w.heap.size) (h1 : RI w A1 n1 c1 p.1) (h2 : RI w A2 n2 c2 p.2) (hn1 : n1 ≤ 1048576) (hn2 : n2 ≤ 1048576) :
    Calls Try.prog 86 #[.agg #[.slice A1 n1 c1, .slice A2 n2 c2]] w fun e w' => ∃ t0 t1, e = .returned (.agg #[t0, t1]) ∧ OT w' B t0 t1 p ∧ Below B w w' := by
  have hwL : Below w.heap.size w ((w.alloc (.cells #[.slice A1 n1 c1, .slice A2 n2 c2] 92)).alloc (.cells #[.slice none 0 0, .slice none 0 0] 92)) := below_alloc (Nat.le_refl _) (below_alloc (Nat.le_refl _) (Below.refl _ _))
  have bx := (Box.new w 92 #[.slice A1 n1 c1, .slice A2 n2 c2]).alloc (.cells #[.slice none 0 0, .slice none 0 0] 92)
  have br : Box ((w.alloc (.cells #[.slice A1 n1 c1, .slice A2 n2 c2] 92)).alloc (.cells #[.slice none 0 0, .slice none 0 0] 92)) (w.heap.size + 1) 92 #[.slice none 0 0, .slice none 0 0] := Box.new' (by simp)
  have hsL : w.heap.size + 2 ≤ ((w.alloc (.cells #[.slice A1 n1 c1, .slice A2 n2 c2] 92)).alloc (.cells #[.slice none 0 0, .slice none 0 0] 92)).heap.size := by simp
  have q0 := bx.d0P; have q1 := bx.d1P
  go_enter Try.func86, Try.ntmps86
  go_wp2_with fail
  generalize ((w.alloc (.cells #[.slice A1 n1 c1, .slice A2 n2 c2] 92)).alloc (.cells #[.slice none 0 0, .slice none 0 0] 92)) = W at *
  have f0 := br.hot 0
  have f1 := br.hot 1
  have p0 := br.d0P
  have p1 := br.d1P
  go_region_held3 (fun w' => w'.cell? ⟨w.heap.size, 0, none⟩ = some (.slice A1 n1 c1) ∧ w'.cell? ⟨w.heap.size, 1, none⟩ = some (.slice A2 n2 c2))
    (first | ((refine ⟨?_, ?_⟩ <;> repeat (first | with_reducible assumption | with_reducible refine keepD ?_ | with_reducible refine keepA ?_)); done) | ((refine ⟨?_, ?_⟩ <;> simp [World.cell?_setCell_other, q0, q1]); done))
    (first
      | (have tok := ho1
         clear tok
         refine step_of_list (by rfl) (wp_appI (.tmp 7) (.tmp 9) (by rfl) _ (w.heap.size + 2) _ [] (by rfl) (OI.box0 (by (repeat (first | with_reducible exact Box.new' rfl | (refine Box.new' ?_; (simp; done)) | with_reducible exact bE2 | with_reducible refine Box.alloc ?_ _ | with_reducible refine Box.drew ?_)); done) (by omega)) _ _ _ p.2 (by rfl) (h2.keep (keeps_below (by (repeat (first | with_reducible exact hwL | with_reducible exact Below.refl _ _ | with_reducible refine Below.drew ?_ | with_reducible refine below_alloc (Nat.le_refl _) ?_ | with_reducible refine below_alloc (by first | omega | (simp; omega)) ?_)); done))) (by simp) (by omega) (by first | omega | (simp; omega)) ?_)
         intro v2 w2 ho2 hb2 hc2 hat2
         try rw [List.nil_append] at ho2
         obtain ⟨Av2, cv2, rfl⟩ := ho2.form
         have hap : Apart (.slice Av1 p.1.length cv1) (.slice Av2 p.2.length cv2) := apart_of fun b hb hb' => by
           have h1 := h1b b hb
           have h2 := (ho1.lt b hb).2
           have h3 := hat2 b hb'
           simp [Value.ownBlock] at h3
           omega
         have hx2 := OI.chg (OI.below ho1 (by (repeat (first | with_reducible exact hwL | with_reducible exact Below.refl _ _ | with_reducible refine Below.drew ?_ | with_reducible refine below_alloc (Nat.le_refl _) ?_ | with_reducible refine below_alloc (by first | omega | (simp; omega)) ?_)); done)) hc2 (fun b hb hs => by
           have h1 := h1b b hb
           have h2 := (ho1.lt b hb).2
           simp [Value.ownBlock] at hs
           omega)
         have bx2 := Box.below (b := w.heap.size) (t := 92) (cs := #[.slice A1 n1 c1, .slice A2 n2 c2]) (by (repeat (first | with_reducible exact bx1 | with_reducible refine Box.alloc ?_ _ | with_reducible refine Box.drew ?_)); done) hb2 (by omega)
         have br2 := Box.below (b := w.heap.size + 1) (t := 92) (cs := #[.slice none 0 0, .slice none 0 0]) (by (repeat (first | with_reducible exact br1 | with_reducible refine Box.alloc ?_ _ | with_reducible refine Box.drew ?_)); done) hb2 (by omega)
         have hw2 : Below w.heap.size w w2 := (show Below w.heap.size w _ by repeat (first | with_reducible exact hwL | with_reducible refine Below.drew ?_ | with_reducible refine below_alloc (by first | omega | (simp; omega)) ?_)).trans (hb2.mono (by omega))
         have q0 := bx2.d0P
         have q1 := bx2.d1P
         have f0 := br2.hot 0
         have f1 := br2.hot 1
         have p0 := br2.d0P
         have p1 := br2.d1P)
      | (refine step_of_list (by rfl) (wp_appI (.tmp 3) (.tmp 5) (by rfl) _ (w.heap.size + 2) _ [] (by rfl) (OI.box0 (by (repeat (first | with_reducible exact Box.new' rfl | (refine Box.new' ?_; (simp; done)) | with_reducible exact bE2 | with_reducible refine Box.alloc ?_ _ | with_reducible refine Box.drew ?_)); done) (by omega)) _ _ _ p.1 (by rfl) (h1.keep (keeps_below (by (repeat (first | with_reducible exact hwL | with_reducible exact Below.refl _ _ | with_reducible refine Below.drew ?_ | with_reducible refine below_alloc (Nat.le_refl _) ?_ | with_reducible refine below_alloc (by first | omega | (simp; omega)) ?_)); done))) (by simp) (by omega) (by first | omega | (simp; omega)) ?_)
         intro v1 w1 ho1 hb1 hc1 hat1
         try rw [List.nil_append] at ho1
         obtain ⟨Av1, cv1, rfl⟩ := ho1.form
         have h1b := hat1
         simp [Value.ownBlock] at h1b
         try (have bE2 : Box w1 (W.heap.size + 1) 2 #[] := Box.chg (cs := #[]) ?_ hc1 ?_; rotate_left; (focus ((repeat (first | with_reducible exact Box.new' rfl | (refine Box.new' ?_; (simp; done)) | with_reducible refine Box.alloc ?_ _ | with_reducible refine Box.drew ?_)); done)); (focus (simp [Value.ownBlock]; done)))
         try (have bE2 : Box w1 W.heap.size 2 #[] := Box.chg (cs := #[]) ?_ hc1 ?_; rotate_left; (focus ((repeat (first | with_reducible exact Box.new' rfl | (refine Box.new' ?_; (simp; done)) | with_reducible refine Box.alloc ?_ _ | with_reducible refine Box.drew ?_)); done)); (focus (simp [Value.ownBlock]; done)))
         have bx1 := Box.below (b := w.heap.size) (t := 92) (cs := #[.slice A1 n1 c1, .slice A2 n2 c2]) (by (repeat (first | with_reducible exact bx | with_reducible refine Box.alloc ?_ _ | with_reducible refine Box.drew ?_)); done) hb1 (by omega)
         have br1 := Box.below (b := w.heap.size + 1) (t := 92) (cs := #[.slice none 0 0, .slice none 0 0]) (by (repeat (first | with_reducible exact br | with_reducible refine Box.alloc ?_ _ | with_reducible refine Box.drew ?_)); done) hb1 (by omega)
         replace hwL : Below w.heap.size w w1 := (show Below w.heap.size w _ by repeat (first | with_reducible exact hwL | with_reducible refine Below.drew ?_ | with_reducible refine below_alloc (by first | omega | (simp; omega)) ?_)).trans (hb1.mono (by omega))
         have hs1 := hb1.size
         try simp at hs1
         have q0 := bx1.d0P
         have q1 := bx1.d1P
         have f0 := br1.hot 0
         have f1 := br1.hot 1
         have p0 := br1.d0P
         have p1 := br1.d1P))
  all_goals
    have ch : Chg (fun b => b = w.heap.size + 1) w2 ((w2.setCell ⟨w.heap.size + 1, 0, none⟩ (.slice Av1 p.1.length cv1)).setCell ⟨w.heap.size + 1, 1, none⟩ (.slice Av2 p.2.length cv2)) := (Chg.set (w := w2) ⟨w.heap.size + 1, 0, none⟩ (.slice Av1 p.1.length cv1)).trans (Chg.set ⟨w.heap.size + 1, 1, none⟩ (.slice Av2 p.2.length cv2)) (U := fun b => b = w.heap.size + 1) (fun _ h => h) (fun _ h => h)
    have bF : Box ((w2.setCell ⟨w.heap.size + 1, 0, none⟩ (.slice Av1 p.1.length cv1)).setCell ⟨w.heap.size + 1, 1, none⟩ (.slice Av2 p.2.length cv2)) (w.heap.size + 1) 92 #[.slice Av1 p.1.length cv1, .slice Av2 p.2.length cv2] := (br2.set_ 0 (.slice Av1 p.1.length cv1)).set_ 1 (.slice Av2 p.2.length cv2)
    have R0 := bF.d0P
    have R1 := bF.d1P
    have fin1 := hx2.chg ch (fun b hb hs => by have := (hx2.lt b hb).1; have : b = w.heap.size + 1 := hs; omega)
    have fin2 := ho2.chg ch (fun b hb hs => by have := (ho2.lt b hb).1; have : b = w.heap.size + 1 := hs; omega)
    have hwF := hw2.trans (ch.below (B := w.heap.size) hw2.size (fun b hb => by have : b = w.heap.size + 1 := hb; omega))
    go_wp2
    exact bodyPost_ret (v := .agg #[.slice Av1 p.1.length cv1, .slice Av2 p.2.length cv2]) (by simp [results, Try.results86, go_sem, R0, R1]) rfl ⟨_, _, rfl, ⟨fin1.more (by omega), fin2.more (by omega), hap⟩, hwF.mono hB⟩


set_option maxRecDepth 100000 in
theorem wpList_pushP {ops : Array Oper} {rest : List Oper} {o : Oper} {a : Act} {Q : Exit → Act → World → Prop} (hgd : o.guard = none) (s x : Operand)
    (ho : o.op = .call { callee := .builtin .append, args := #[s, x], argTypes := #[27, 27] })
    (W w : World) (lo : Nat) (v : Value) (ps : List PairD) (u1 u2 : Value) (xs ys : List Int) (hs : a.eval s = v) (hx : a.eval x = .slice (some ⟨w.heap.size, 0, none⟩) 1 1)
    (hlo : lo ≤ W.heap.size) (hown : OPS W lo v ps) (hW : Below W.heap.size W w) (h1 : OI 2 w W.heap.size u1 xs) (h2 : OI 2 w W.heap.size u2 ys) (hap : Apart u1 u2) (hn : ps.length ≤ 1048576)
    (h : ∀ v' w', OPS w' lo v' (ps ++ [(xs, ys)]) → Below lo w w' → Chg (fun b => v.ownBlock = some b) w w' → wpList Try.prog ops Q rest (a.put o.dst v') w') : wpList Try.prog ops Q (o :: rest) a (w.alloc (.cells #[u1, u2] 92)) :=
  wpList_plain hgd fun _ hK => wp_pushP s x ho W w lo v ps u1 u2 xs ys hs hx hlo hown hW h1 h2 hap hn fun v' w' h1 h2 h3 => hK _ _ (h v' w' h1 h2 h3)
theorem RPS.take {w : World} {A : Option Addr} {n c : Nat} {ps : List PairD} (h : RPS w A n c ps) {k : Nat} (hk : k ≤ n) : RPS w A k c (ps.take k) :=
  ⟨by rw [List.length_take, h.1]; omega, ⟨by have := h.cap; omega, h.top⟩, fun i hi => by
    obtain ⟨b, off, A1, n1, c1, A2, n2, c2, e, hc1, hc2, h1, h2⟩ := h.2.2 i (by omega)
    have e' : gp (ps.take k) i = gp ps i := by simp [gp, List.getElem?_take, hi]
    exact ⟨b, off, A1, n1, c1, A2, n2, c2, e, hc1, hc2, e' ▸ h1, e' ▸ h2⟩⟩
theorem gp_take {ps : List PairD} {k i : Nat} (h : i < k) : gp (ps.take k) i = gp ps i := by simp [gp, List.getElem?_take, h]
theorem firstI_congr {p q : Nat → Bool} : ∀ {n : Nat}, (∀ i, i < n → p i = q i) → firstI p n = firstI q n
  | 0, _ => rfl
  | n + 1, h => by rw [firstI, firstI, firstI_congr fun i hi => h i (by omega), h n (by omega)]

set_option maxRecDepth 100000 in
set_option maxHeartbeats 1600000 in
theorem implNeededPairs (A : Option Addr) (n c : Nat) (ps : List PairD) (w : World) (B : Nat) (hB : B ≤ w.heap.size) (ha : RPS w A n c ps) :
    Calls Try.prog 19 #[.slice A n c] w fun e w' => ∃ v, e = .returned v ∧ OPS w' B v (neededR ps) ∧ Below B w w' := by
  have hmf : ∀ (fn : Fn) (first cap : Array Value) (w : World), (Instr.makeFunc fn first cap).run Try.prog w = .ok (.func fn first cap) w := fun _ _ _ _ => rfl
  have b1 := ha.cap; have b2 := ha.top
  have HL := Lib.hid ha.len
  cases h1 : pairsB ps 256 with
  | false =>
    have E := Lib.hid (show neededR ps = [] from if_neg (by rw [h1]; decide))
    go_enter Try.func19, Try.ntmps19
    go_wp2_with fail
    refine (arePairs _ _ _ _ _ _ _ (Nat.le_refl _) ha).mono ?_; rintro e w1 ⟨rfl, hb1⟩
    rw [h1]
    go_wp2
    go_ret
    exact ⟨_, rfl, by rw [E.out]; exact OPS.nil _ _, hb1.mono hB⟩
  | true =>
    have HF := Lib.hid (finePs_of h1 (by omega) (by omega))
    have hn : n ≤ 4 := by have := HF.out.1; rw [HL.out] at this; omega
    have E := Lib.hid (show neededR ps = neededUp ps n from (if_pos h1).trans (by rw [HL.out]))
    go_enter Try.func19, Try.ntmps19
    go_wp2_with fail
    refine (arePairs _ _ _ _ _ _ _ (Nat.le_refl _) ha).mono ?_; rintro e w1 ⟨rfl, hb1⟩
    rw [h1]
    clear h1
    go_wp2
    go_loopw [3, 13] (fun v i wr => ∃ (k : Nat) (L : List PairD), k ≤ n ∧ i = .int .i64 k ∧ L = neededUp ps k ∧ OPS wr w.heap.size v L ∧ Below w.heap.size w wr) (fun _ i _ => n - (intOf i).toNat)
    case atStart => exact ⟨0, [], Nat.zero_le _, rfl, rfl, (OPS.empty (Nat.le_refl _)).more hb1.size, below_alloc (Nat.le_refl _) hb1⟩
    case round =>
      clear hb1
      obtain ⟨k, L, hk, rfl, hLk, ho, hbr⟩ := hrel
      have HLk := Lib.hid hLk
      have hlen : L.length ≤ 1048576 := by have := neededUp_len ps k; rw [← hLk] at this; omega
      clear hLk
      obtain ⟨Av, cv, rfl⟩ := ho.form
      have hsz := hbr.size
      by_cases hlt : k < n
      · obtain ⟨bb, off, A1, n1, c1, A2, n2, c2, rfl, hc1, hc2, r1, r2⟩ := (ha.keep (keeps_below hbr)).at_ hlt
        have hki : (k : Int) < (n : Int) := by omega
        have hki2 : (k : Int) ≤ (n : Int) := by omega
        have hk0 : (0 : Int) ≤ (k : Int) := by omega
        obtain ⟨hr1, hr2, hl1, hl2⟩ := HF.out.2 k (by rw [HL.out]; exact hlt)
        rw [r1.len] at hl1
        rw [r2.len] at hl2
        have HR1 := Lib.hid hr1; have HR2 := Lib.hid hr2
        clear hr1 hr2
        have HN1 := Lib.hid r1.len
        have hwL : Below wr.heap.size wr (wr.alloc (.cells #[.slice A1 n1 c1, .slice A2 n2 c2] 92)) := below_alloc (Nat.le_refl _) (Below.refl _ _)
        have bx := Box.new wr 92 #[.slice A1 n1 c1, .slice A2 n2 c2]
        have q0 := bx.d0P; have q1 := bx.d1P
        have haT := ((ha.keep (keeps_below hbr)).keep (keeps_below hwL)).take (k := k) (by omega)
        have HE1 := Lib.hid (newUp_first ps k k)
        have HE2 := Lib.hid (show outUp (gp ps k).1 (gp ps k).2 (gp ps k).1.length = decide (0 < (lessL (gp ps k).1 (gp ps k).2).length) from outUp_pos _ _ _)
        have HFC := Lib.hid (show firstI (fun j => eqPD (gp ps k) (gp (ps.take k) j)) k = firstI (fun j => eqPD (gp ps k) (gp ps j)) k from firstI_congr fun i hi => by rw [gp_take hi])
        go_wp2_with fail
        generalize (wr.alloc (.cells #[.slice A1 n1 c1, .slice A2 n2 c2] 92)) = W at *
        clear q0 q1
        refine (containsPair (eqPD (gp ps k)) 83 #[.pointer (some ⟨wr.heap.size, 0, none⟩)] _ _ _ (ps.take k) _ _ (Nat.le_refl _) haT neededFn_enter (fun w' B1 B2 m1 m2 d1 d2 q hb' s1 s2 => neededFn A1 A2 B1 B2 n1 n2 m1 m2 c1 c2 d1 d2 (gp ps k) q wr.heap.size w' _ (Nat.le_refl _) (bx.below hb' bx.lt) ((r1.keep (keeps_below hwL)).keep (keeps_below hb')) ((r2.keep (keeps_below hwL)).keep (keeps_below hb')) s1 s2)).mono ?_; rintro e w2 ⟨rfl, hb2⟩
        rw [HFC.out]
        generalize hfd : decide (0 ≤ firstI (fun j => eqPD (gp ps k) (gp ps j)) k) = fd at *
        clear hfd haT
        have hw2 := below_then hb2 hwL.size hwL
        have bx2 := bx.below hb2 bx.lt
        have q0 := bx2.d0P; have q1 := bx2.d1P
        go_wp2_with fail
        clear q0 q1
        refine (lessOf _ _ _ _ _ _ (gp ps k).1 (gp ps k).2 _ _ (Nat.le_refl _) (r1.keep (keeps_below hw2)) (r2.keep (keeps_below hw2)) HR2.out (by omega) (by omega)).mono ?_; rintro e w3 ⟨v3, rfl, ho3, hb3⟩
        obtain ⟨A3, c3, rfl⟩ := ho3.form
        have hll : (lessL (gp ps k).1 (gp ps k).2).length ≤ 1048576 := by have := pick_len (fun i => !hasL (gp ps k).2 (gi (gp ps k).1 i)) (gi (gp ps k).1) (gp ps k).1.length; unfold lessL lessUp; rw [HN1.out] at this; rw [HN1.out]; omega
        generalize hln : (lessL (gp ps k).1 (gp ps k).2).length = ln at *
        clear hln ho3
        have hw3 := below_then hb3 hw2.size hw2
        have bx3 := bx2.below hb3 bx2.lt
        have q0 := bx3.d0P; have q1 := bx3.d1P
        by_cases hpos : 0 < ln
        · have hd : decide ((0 : Int) < (ln : Int)) = true := decide_eq_true (by omega)
          cases fd with
          | true =>
            have HX := Lib.hid (neededUp_no (ps := ps) (k := k) (show neededB ps k = false by unfold neededB; rw [HE1.out]; simp))
            go_wp2
            go_roundw
            case rel => exact ⟨k + 1, L, by omega, by go_num, by rw [HX.out, HLk.out], ho.below hw3, below_then hw3 hsz hbr⟩
            case measure => simp [intOf]; omega
          | false =>
            have HX := Lib.hid (neededUp_yes (ps := ps) (k := k) (show neededB ps k = true by unfold neededB; rw [HE1.out, HE2.out, decide_eq_true hpos]; rfl))
            have hsw := hw3.size
            go_wp2_with (first
              | (go_at_call 86
                 refine (copyPair _ _ _ _ _ _ (gp ps k) _ _ (Nat.le_refl _) (r1.keep (keeps_below hw3)) (r2.keep (keeps_below hw3)) (by omega) (by omega)).mono ?_
                 rintro e w4 ⟨t0, t1, rfl, hot, hb4⟩
                 obtain ⟨B0, d0, B1, d1, rfl, rfl⟩ := hot.form
                 have hw4 := below_then hb4 hw3.size hw3)
              | (at_builtin; refine wpList_pushP rfl (.tmp 34) (.tmp 37) rfl wr _ w.heap.size _ L _ _ (gp ps k).1 (gp ps k).2 rfl rfl hsz ho hw4 (hot.1.more hsw) (hot.2.1.more hsw) hot.2.2 hlen ?_; intro v5 w5 ho5 hb5 hc5))
            go_roundw
            case rel => exact ⟨k + 1, _, by omega, by go_num, by rw [HX.out, ← HLk.out], ho5, hbr.trans ((hw4.mono hsz).trans hb5)⟩
            case measure => simp [intOf]; omega
        · have hd : decide ((0 : Int) < (ln : Int)) = false := decide_eq_false (by omega)
          have HX := Lib.hid (neededUp_no (ps := ps) (k := k) (show neededB ps k = false by unfold neededB; rw [HE2.out, decide_eq_false hpos]; rfl))
          go_wp2
          go_roundw
          case rel => exact ⟨k + 1, L, by omega, by go_num, by rw [HX.out, HLk.out], ho.below hw3, below_then hw3 hsz hbr⟩
          case measure => simp [intOf]; omega
      · obtain rfl : k = n := by omega
        go_wp2
        go_ret
        exact ⟨_, rfl, by rw [E.out, ← HLk.out]; exact ho.more hB, hbr.mono hB⟩

end Go.Proofs.Ytfjhkjikfjpnpaa
