/- PlacesLasso: l17Ats; spec and impl. -/
import Derived.Test.YtgbiceilcmhimaaTwo
import Derived.Test.YtgbiceilcmhimaaPlaces4
import Derived.Test.YtgbiceilcmhimaaApp2
import Derived.Test.YtgbiceilcmhimaaAcc
import Derived.Deep.RegionLaw
namespace Go.Proofs.Ytgbiceilcmhimaa
open Go.RowKit

def atOk (ps : List PlaceD) (x : Int) : Bool := decide (0 ≤ x ∧ x < ps.length)
def atsOk (ps : List PlaceD) (xs : List Int) : Bool := decide (xs.length ≤ 256) && xs.all (atOk ps)
def atsUp (ps : List PlaceD) (xs : List Int) (k : Nat) : List Int := (xs.take k).map fun x => (gq ps x.toNat).1
def atsL (ps : List PlaceD) (xs : List Int) : List Int := if atsOk ps xs = true then atsUp ps xs xs.length else []
theorem atsUp_succ {ps : List PlaceD} {xs : List Int} {k : Nat} (h : k < xs.length) : atsUp ps xs (k + 1) = atsUp ps xs k ++ [(gq ps (gi xs k).toNat).1] := by
  unfold atsUp
  rw [take_gi h, List.map_append]; rfl
theorem atsUp_len (ps : List PlaceD) (xs : List Int) (k : Nat) : (atsUp ps xs k).length ≤ k := by
  unfold atsUp
  rw [List.length_map, List.length_take]
  omega
theorem atsOk_of {ps : List PlaceD} {xs : List Int} {n : Nat} (hl : xs.length = n) (h : n ≤ 256) (k : ∀ i, i < n → atOk ps (gi xs i) = true) : atsOk ps xs = true := by
  unfold atsOk
  rw [Bool.and_eq_true, List.all_eq_true]
  refine ⟨decide_eq_true (by omega), fun x hx => ?_⟩
  obtain ⟨i, hi, rfl⟩ := mem_gi hx
  exact k i (by omega)
theorem atsOk_long {ps : List PlaceD} {xs : List Int} {n : Nat} (hl : xs.length = n) (h : ¬ n ≤ 256) : atsOk ps xs = false := by
  unfold atsOk
  rw [decide_eq_false (by omega)]; rfl
theorem atsOk_no {ps : List PlaceD} {xs : List Int} {n i : Nat} (hl : xs.length = n) (hi : i < n) (h : atOk ps (gi xs i) = false) : atsOk ps xs = false := by
  cases e : atsOk ps xs with
  | false => rfl
  | true =>
    unfold atsOk at e
    rw [Bool.and_eq_true, List.all_eq_true] at e
    have := e.2 _ (gi_mem (xs := xs) (i := i) (by omega))
    rw [h] at this; cases this
def plOk (ps : List PlaceD) (z : TwoD) : Bool := decide (ps.length ≤ 256) && (atsOk ps z.1 && atsOk ps z.2)
def plR (ps : List PlaceD) (z : TwoD) : TwoD := if plOk ps z = true then (atsL ps z.1, atsL ps z.2) else ([], [])
theorem atsL_len (ps : List PlaceD) (xs : List Int) : (atsL ps xs).length ≤ 256 := by
  unfold atsL
  split
  · rename_i h
    unfold atsOk at h
    rw [Bool.and_eq_true] at h
    have := of_decide_eq_true h.1
    exact Nat.le_trans (atsUp_len _ _ _) this
  · simp
theorem plR_tot (ps : List PlaceD) (z : TwoD) : totT (plR ps z) ≤ 512 := by
  unfold plR totT
  split
  · have := atsL_len ps z.1
    have := atsL_len ps z.2
    dsimp only
    omega
  · simp

set_option maxRecDepth 100000 in
set_option maxHeartbeats 800000 in
theorem l17Ats (A C : Option Addr) (n c m d : Nat) (ps : List PlaceD) (xs : List Int) (w : World) (B : Nat) (hB : B ≤ w.heap.size) (ha : RQS w A n c ps) (hb : RI w C m d xs) :
    Calls Try.prog 81 #[.slice A n c, .slice C m d] w fun e w' => ∃ v, e = .returned (.tuple #[v, .bool (atsOk ps xs)]) ∧ OI 2 w' B v (atsL ps xs) ∧ Below B w w' := by
  have b1 := ha.cap; have b2 := ha.top; have b3 := hb.cap; have b4 := hb.top
  have HL := Lib.hid ha.len; have HM := Lib.hid hb.len
  have hba : Below w.heap.size w (w.alloc (.cells #[] 2)) := below_alloc (Nat.le_refl _) (Below.refl _ _)
  have hem := OI.empty (E := 2) (w := w) (B := w.heap.size) (Nat.le_refl _)
  have e1 : IntKind.i64.wrap ((n : Int) - 1) = (n : Int) - 1 := IntWalk.i64_in _ (by omega)
  by_cases hm : m ≤ 256
  · go_enter Try.func81, Try.ntmps81
    go_wp2
    go_loopw [6, 7] (fun x i wr => ∃ k : Nat, k ≤ m ∧ i = .int .i64 k ∧ (∀ j, j < k → atOk ps (gi xs j) = true) ∧ OI 2 wr w.heap.size x (atsUp ps xs k) ∧ Below w.heap.size w wr) (fun _ i _ => m - (intOf i).toNat)
    case atStart => exact ⟨0, Nat.zero_le _, rfl, by omega, hem, hba⟩
    case round =>
      clear hem hba
      obtain ⟨k, hk, rfl, hall, hx, hw⟩ := hrel
      have HA := Lib.hid hall
      clear hall
      have hlen := atsUp_len ps xs k
      have hsz := hw.size
      by_cases hlt : k < m
      · obtain ⟨bb, off, rfl, hc⟩ := (hb.keep (keeps_below hw)).at_ hlt
        have hki : (k : Int) < (m : Int) := by omega
        have hk0 : (0 : Int) ≤ (k : Int) := by omega
        cases hok : atOk ps (gi xs k) with
        | false =>
          have E := Lib.hid (atsOk_no HM.out hlt hok)
          have HI := Lib.hid (show inR (gi xs k) 0 ((n : Int) - 1) = false by unfold atOk at hok; unfold inR; have := of_decide_eq_false hok; exact decide_eq_false (by rw [HL.out] at this; omega))
          clear hok
          go_wp2_with fail
          refine (l1In _ _ _ _).mono ?_; rintro e w1 ⟨rfl, q, rfl⟩
          rw [HI.out]
          go_wp2
          go_ret2
          exact ⟨.slice (some ⟨wr.heap.size, 0, none⟩) 0 0, by rw [E.out]; rfl, by unfold atsL; rw [if_neg (by rw [E.out]; decide)]; exact OI.empty (w := wr.drewN q) (by show B ≤ wr.heap.size; omega), below_alloc (by show B ≤ w.heap.size; omega) (below_drewN (hw.mono hB) _)⟩
        | true =>
          have H := Lib.hid hok
          have hok' := of_decide_eq_true hok
          rw [HL.out] at hok'
          obtain ⟨u, hu⟩ : ∃ u : Nat, gi xs k = (u : Int) := ⟨(gi xs k).toNat, by omega⟩
          have hun : u < n := by omega
          have HI := Lib.hid (show inR (gi xs k) 0 ((n : Int) - 1) = true by unfold inR; exact decide_eq_true (by omega))
          have HX := Lib.hid (atsUp_succ (ps := ps) (xs := xs) (k := k) (by rw [HM.out]; exact hlt))
          rw [hu] at hc HI HX
          obtain ⟨bp, op, A2, n2, c2, rfl, hc1, hc2, r2⟩ := (ha.keep (keeps_below hw)).at_ hun
          have hui : (u : Int) < (n : Int) := by omega
          have hu0 : (0 : Int) ≤ (u : Int) := by omega
          clear hok hok' hu
          go_wp2_with fail
          refine (l1In _ _ _ _).mono ?_; rintro e w1 ⟨rfl, q, rfl⟩
          rw [HI.out]
          go_wp2_with (at_builtin; refine wpList_pushI rfl (.tmp 29) (.tmp 38) rfl _ _ _ (atsUp ps xs k) rfl (hx.drewN q) _ rfl (by omega) (by show w.heap.size ≤ wr.heap.size; omega) ?_; intro v2 w2 ho2 hb2 hc2 hat2)
          go_roundw
          case rel => exact ⟨k + 1, by omega, by go_num, all_succ HA.out H.out, by rw [HX.out]; exact ho2, (below_drewN hw q).trans hb2⟩
          case measure => simp [intOf]; omega
      · obtain rfl : k = m := by omega
        have E := Lib.hid (atsOk_of HM.out hm HA.out)
        have E2 := Lib.hid (show atsL ps xs = atsUp ps xs k from (if_pos E.out).trans (by rw [HM.out]))
        go_wp2
        go_ret2
        exact ⟨_, by rw [E.out]; rfl, by rw [E2.out]; exact hx.more hB, hw.mono hB⟩
  · have E := Lib.hid (atsOk_long (ps := ps) HM.out hm)
    have hd : decide ((256 : Int) < (m : Int)) = true := decide_eq_true (by omega)
    go_enter Try.func81, Try.ntmps81
    go_wp2
    go_ret2
    exact ⟨.slice (some ⟨w.heap.size, 0, none⟩) 0 0, by rw [E.out]; rfl, by unfold atsL; rw [if_neg (by rw [E.out]; decide)]; exact hem.more hB, hba.mono hB⟩

theorem Box.e0 {w : World} {b : Nat} {t : TypeId} {x0 x1 : Value} (h : Box w b t #[x0, x1]) : w.cell? ⟨b, 0, none⟩ = some x0 ∧ w.cell? ⟨b, 1, none⟩ = some x1 ∧ w.frozen? ⟨b, 0, none⟩ = false ∧ w.frozen? ⟨b, 1, none⟩ = false := ⟨h.cell 0, h.cell 1, h.hot 0, h.hot 1⟩
theorem Box.put2 {w : World} {b : Nat} {t : TypeId} {x0 x1 : Value} (h : Box w b t #[x0, x1]) (y0 y1 : Value) : Box ((w.setCell ⟨b, 0, none⟩ y0).setCell ⟨b, 1, none⟩ y1) b t #[y0, y1] := (h.set_ 0 y0).set_ 1 y1
theorem Chg.put2 (w : World) (b : Nat) (y0 y1 : Value) : Chg (fun x => x = b) w ((w.setCell ⟨b, 0, none⟩ y0).setCell ⟨b, 1, none⟩ y1) :=
  (Chg.set (w := w) ⟨b, 0, none⟩ y0).trans (Chg.set ⟨b, 1, none⟩ y1) (U := fun x => x = b) (fun _ h => h) (fun _ h => h)
theorem plR_no {ps : List PlaceD} {z : TwoD} (h : plOk ps z = false) : plR ps z = ([], []) := by unfold plR; rw [if_neg (by rw [h]; decide)]
theorem plR_yes {ps : List PlaceD} {z : TwoD} (h : plOk ps z = true) : plR ps z = (atsL ps z.1, atsL ps z.2) := if_pos h

set_option maxRecDepth 100000 in
set_option maxHeartbeats 1600000 in
theorem specPlacesLasso (A : Option Addr) (n c : Nat) (ps : List PlaceD) (s0 s1 : Value) (z : TwoD) (w : World) (B : Nat) (hB : B ≤ w.heap.size) (ha : RQS w A n c ps) (hz : RTv w s0 s1 z) :
    Calls Try.prog 17 #[.slice A n c, .agg #[s0, s1]] w fun e w' => ∃ t0 t1, e = .returned (.agg #[t0, t1]) ∧ OT w' B t0 t1 (plR ps z) ∧ Below B w w' := by
  obtain ⟨A0, n0, c0, A1, n1, c1, rfl, rfl⟩ := hz.form
  have r0 := hz.r1; have r1 := hz.r2
  have b1 := ha.cap; have b2 := ha.top; have b3 := r0.cap; have b4 := r0.top; have b5 := r1.cap; have b6 := r1.top
  have HL := Lib.hid ha.len; have HM0 := Lib.hid r0.len; have HM1 := Lib.hid r1.len
  have hw : Below w.heap.size w ((w.alloc (.cells #[.slice A0 n0 c0, .slice A1 n1 c1] 28)).alloc (.cells #[.slice none 0 0, .slice none 0 0] 28)) := below_alloc (Nat.le_refl _) (below_alloc (Nat.le_refl _) (Below.refl _ _))
  have bx := (Box.new w 28 #[.slice A0 n0 c0, .slice A1 n1 c1]).alloc (.cells #[.slice none 0 0, .slice none 0 0] 28)
  have br : Box ((w.alloc (.cells #[.slice A0 n0 c0, .slice A1 n1 c1] 28)).alloc (.cells #[.slice none 0 0, .slice none 0 0] 28)) (w.heap.size + 1) 28 #[.slice none 0 0, .slice none 0 0] := Box.new' (by simp)
  have hs : w.heap.size + 2 ≤ ((w.alloc (.cells #[.slice A0 n0 c0, .slice A1 n1 c1] 28)).alloc (.cells #[.slice none 0 0, .slice none 0 0] 28)).heap.size := by simp
  obtain ⟨q0, q1, _, _⟩ := bx.e0
  obtain ⟨p0, p1, f0, f1⟩ := br.e0
  by_cases hn : n ≤ 256
  · have hd : decide ((256 : Int) < (n : Int)) = false := decide_eq_false (by omega)
    go_enter Try.func17, Try.ntmps17
    go_wp2_with fail
    generalize ((w.alloc (.cells #[.slice A0 n0 c0, .slice A1 n1 c1] 28)).alloc (.cells #[.slice none 0 0, .slice none 0 0] 28)) = W at *
    refine (l17Ats _ _ _ _ _ _ ps z.1 _ _ (Nat.le_refl _) (ha.keep (keeps_below hw)) (r0.keep (keeps_below hw))).mono ?_; rintro e w1 ⟨v1, rfl, ho1, hb1⟩
    replace bx := bx.below hb1 bx.lt
    replace br := br.below hb1 br.lt
    replace hw := below_then hb1 hw.size hw
    clear q0 q1 p0 p1 f0 f1
    obtain ⟨q0, q1, _, _⟩ := bx.e0
    go_wp2_with fail
    refine (l17Ats _ _ _ _ _ _ ps z.2 _ _ (Nat.le_refl _) (ha.keep (keeps_below hw)) (r1.keep (keeps_below hw))).mono ?_; rintro e w2 ⟨v2, rfl, ho2, hb2⟩
    have hap := apart_lt ho1 ho2 (Nat.le_refl _)
    replace ho2 := ho2.more (lo' := W.heap.size) hb1.size
    replace ho1 := ho1.below hb2
    replace bx := bx.below hb2 bx.lt
    replace br := br.below hb2 br.lt
    replace hw := below_then hb2 hw.size hw
    clear q0 q1 hb1 hb2
    obtain ⟨p0, p1, f0, f1⟩ := br.e0
    obtain ⟨X1, d1, rfl⟩ := ho1.form
    obtain ⟨X2, d2, rfl⟩ := ho2.form
    cases h1 : atsOk ps z.1 with
    | false =>
      have E := Lib.hid (show plOk ps z = false by unfold plOk; rw [h1]; simp)
      clear h1
      go_wp2
      have bF := br.put2 (.slice none 0 0) (.slice none 0 0)
      have ch := Chg.put2 w2 (w.heap.size + 1) (.slice none 0 0) (.slice none 0 0)
      obtain ⟨R0, R1, _, _⟩ := bF.e0
      have hwF := hw.trans (ch.below (B := w.heap.size) hw.size (fun b hb => by have : b = w.heap.size + 1 := hb; omega))
      exact bodyPost_ret (v := .agg #[.slice none 0 0, .slice none 0 0]) (by simp [results, Try.results17, go_sem, R0, R1]) rfl ⟨_, _, rfl, by rw [plR_no E.out]; exact OT.nil _ _, hwF.mono hB⟩
    | true =>
      cases h2 : atsOk ps z.2 with
      | false =>
        have E := Lib.hid (show plOk ps z = false by unfold plOk; rw [h2]; simp)
        clear h1 h2
        go_wp2
        have bF := br.put2 (.slice none 0 0) (.slice none 0 0)
        have ch := Chg.put2 w2 (w.heap.size + 1) (.slice none 0 0) (.slice none 0 0)
        obtain ⟨R0, R1, _, _⟩ := bF.e0
        have hwF := hw.trans (ch.below (B := w.heap.size) hw.size (fun b hb => by have : b = w.heap.size + 1 := hb; omega))
        exact bodyPost_ret (v := .agg #[.slice none 0 0, .slice none 0 0]) (by simp [results, Try.results17, go_sem, R0, R1]) rfl ⟨_, _, rfl, by rw [plR_no E.out]; exact OT.nil _ _, hwF.mono hB⟩
      | true =>
        have E := Lib.hid (show plOk ps z = true by unfold plOk; rw [h1, h2, decide_eq_true (by rw [HL.out]; exact hn)]; rfl)
        clear h1 h2
        go_wp2
        have fin1 := ho1.chg (Chg.put2 w2 (w.heap.size + 1) (.slice X1 (atsL ps z.1).length d1) (.slice X2 (atsL ps z.2).length d2)) (fun b hb hs => by have := (ho1.lt b hb).1; have : b = w.heap.size + 1 := hs; omega)
        have fin2 := ho2.chg (Chg.put2 w2 (w.heap.size + 1) (.slice X1 (atsL ps z.1).length d1) (.slice X2 (atsL ps z.2).length d2)) (fun b hb hs => by have := (ho2.lt b hb).1; have : b = w.heap.size + 1 := hs; omega)
        have bF := br.put2 (.slice X1 (atsL ps z.1).length d1) (.slice X2 (atsL ps z.2).length d2)
        have ch := Chg.put2 w2 (w.heap.size + 1) (.slice X1 (atsL ps z.1).length d1) (.slice X2 (atsL ps z.2).length d2)
        obtain ⟨R0, R1, _, _⟩ := bF.e0
        have hwF := hw.trans (ch.below (B := w.heap.size) hw.size (fun b hb => by have : b = w.heap.size + 1 := hb; omega))
        exact bodyPost_ret (v := .agg #[.slice X1 (atsL ps z.1).length d1, .slice X2 (atsL ps z.2).length d2]) (by simp [results, Try.results17, go_sem, R0, R1]) rfl ⟨_, _, rfl, by rw [plR_yes E.out]; exact ⟨fin1.more (by omega), fin2.more (by omega), hap⟩, hwF.mono hB⟩
  · have hd : decide ((256 : Int) < (n : Int)) = true := decide_eq_true (by omega)
    have E := Lib.hid (show plOk ps z = false by unfold plOk; rw [decide_eq_false (by rw [HL.out]; exact hn)]; rfl)
    go_enter Try.func17, Try.ntmps17
    go_wp2
    exact bodyPost_ret (v := .agg #[.slice none 0 0, .slice none 0 0]) (by simp [results, Try.results17, go_sem]) rfl ⟨_, _, rfl, by rw [plR_no E.out]; exact OT.nil _ _, hw.mono hB⟩

set_option maxRecDepth 100000 in
set_option maxHeartbeats 1600000 in
theorem implPlacesLasso (A : Option Addr) (n c : Nat) (ps : List PlaceD) (s0 s1 : Value) (z : TwoD) (w : World) (B : Nat) (hB : B ≤ w.heap.size) (ha : RQS w A n c ps) (hz : RTv w s0 s1 z) :
    Calls Try.prog 20 #[.slice A n c, .agg #[s0, s1]] w fun e w' => ∃ t0 t1, e = .returned (.agg #[t0, t1]) ∧ OT w' B t0 t1 (plR ps z) ∧ Below B w w' := by
  obtain ⟨A0, n0, c0, A1, n1, c1, rfl, rfl⟩ := hz.form
  have r0 := hz.r1; have r1 := hz.r2
  have b1 := ha.cap; have b2 := ha.top; have b3 := r0.cap; have b4 := r0.top; have b5 := r1.cap; have b6 := r1.top
  have HL := Lib.hid ha.len; have HM0 := Lib.hid r0.len; have HM1 := Lib.hid r1.len
  have hw : Below w.heap.size w ((w.alloc (.cells #[.slice A0 n0 c0, .slice A1 n1 c1] 28)).alloc (.cells #[.slice none 0 0, .slice none 0 0] 28)) := below_alloc (Nat.le_refl _) (below_alloc (Nat.le_refl _) (Below.refl _ _))
  have bx := (Box.new w 28 #[.slice A0 n0 c0, .slice A1 n1 c1]).alloc (.cells #[.slice none 0 0, .slice none 0 0] 28)
  have br : Box ((w.alloc (.cells #[.slice A0 n0 c0, .slice A1 n1 c1] 28)).alloc (.cells #[.slice none 0 0, .slice none 0 0] 28)) (w.heap.size + 1) 28 #[.slice none 0 0, .slice none 0 0] := Box.new' (by simp)
  have hs : w.heap.size + 2 ≤ ((w.alloc (.cells #[.slice A0 n0 c0, .slice A1 n1 c1] 28)).alloc (.cells #[.slice none 0 0, .slice none 0 0] 28)).heap.size := by simp
  obtain ⟨q0, q1, _, _⟩ := bx.e0
  obtain ⟨p0, p1, f0, f1⟩ := br.e0
  by_cases hn : n ≤ 256
  · have hd : decide ((256 : Int) < (n : Int)) = false := decide_eq_false (by omega)
    by_cases hm0 : n0 ≤ 256
    · have hd0 : decide ((256 : Int) < (n0 : Int)) = false := decide_eq_false (by omega)
      by_cases hm1 : n1 ≤ 256
      · have hd1 : decide ((256 : Int) < (n1 : Int)) = false := decide_eq_false (by omega)
        go_enter Try.func20, Try.ntmps20
        have bo : Box (((w.alloc (.cells #[.slice A0 n0 c0, .slice A1 n1 c1] 28)).alloc (.cells #[.slice none 0 0, .slice none 0 0] 28)).alloc (.cells #[.slice none 0 0, .slice none 0 0] 28)) (w.heap.size + 2) 28 #[.slice none 0 0, .slice none 0 0] := Box.new' (by simp)
        have hbo : Below ((w.alloc (.cells #[.slice A0 n0 c0, .slice A1 n1 c1] 28)).alloc (.cells #[.slice none 0 0, .slice none 0 0] 28)).heap.size ((w.alloc (.cells #[.slice A0 n0 c0, .slice A1 n1 c1] 28)).alloc (.cells #[.slice none 0 0, .slice none 0 0] 28)) (((w.alloc (.cells #[.slice A0 n0 c0, .slice A1 n1 c1] 28)).alloc (.cells #[.slice none 0 0, .slice none 0 0] 28)).alloc (.cells #[.slice none 0 0, .slice none 0 0] 28)) := below_alloc (Nat.le_refl _) (Below.refl _ _)
        replace bx := bx.below hbo bx.lt
        obtain ⟨q2, q3, _, _⟩ := bx.e0
        go_wp2
        replace br := br.below hbo br.lt
        replace hw := below_then hbo hw.size hw
        have hs2 : w.heap.size + 3 ≤ (((w.alloc (.cells #[.slice A0 n0 c0, .slice A1 n1 c1] 28)).alloc (.cells #[.slice none 0 0, .slice none 0 0] 28)).alloc (.cells #[.slice none 0 0, .slice none 0 0] 28)).heap.size := by simp
        clear q0 q1 q2 q3 p0 p1 f0 f1 hbo
        generalize (((w.alloc (.cells #[.slice A0 n0 c0, .slice A1 n1 c1] 28)).alloc (.cells #[.slice none 0 0, .slice none 0 0] 28)).alloc (.cells #[.slice none 0 0, .slice none 0 0] 28)) = W at *
        go_loopw [30] (fun i wr => ∃ (k : Nat) (v : Value), k ≤ n0 ∧ i = .int .i64 k ∧ (∀ j, j < k → atOk ps (gi z.1 j) = true) ∧ OI 2 wr W.heap.size v (atsUp ps z.1 k) ∧ Box wr (w.heap.size + 2) 28 #[v, .slice none 0 0] ∧ Chg (fun b => b = w.heap.size + 2) W wr) (fun i _ => n0 - (intOf i).toNat)
        case atStart => exact ⟨0, _, Nat.zero_le _, rfl, by omega, OI.nil _ _ _, bo, Chg.refl _ _⟩
        case round =>
          obtain ⟨k, v, hk, rfl, hall, hv, bR, hch⟩ := hrel
          have HA := Lib.hid hall
          clear hall bo
          obtain ⟨Av, cv, rfl⟩ := hv.form
          have hlen := atsUp_len ps z.1 k
          have hsz := hch.size
          have hbW : Below (w.heap.size + 2) W wr := hch.below (by omega) (fun b hb => by have : b = w.heap.size + 2 := hb; omega)
          have hwr : Below w.heap.size w wr := hw.trans (hbW.mono (by omega))
          have bxr := bx.below hbW (by omega)
          have brr := br.below hbW (by omega)
          obtain ⟨g0, g1, h0, h1⟩ := bR.e0
          by_cases hlt : k < n0
          · obtain ⟨bb, off, rfl, hc⟩ := (r0.keep (keeps_below hwr)).at_ hlt
            have hki : (k : Int) < (n0 : Int) := by omega
            have hk0 : (0 : Int) ≤ (k : Int) := by omega
            cases hok : atOk ps (gi z.1 k) with
            | false =>
              have E := Lib.hid (show plOk ps z = false by unfold plOk; rw [atsOk_no HM0.out hlt hok]; simp)
              obtain ⟨p0, p1, f0, f1⟩ := brr.e0
              have hok' := of_decide_eq_false hok
              rw [HL.out] at hok'
              clear hok
              by_cases hneg : gi z.1 k < 0
              · have hdn : decide (gi z.1 k < 0) = true := decide_eq_true hneg
                clear hok'
                go_wp2
                have bF := brr.put2 (.slice none 0 0) (.slice none 0 0)
                have ch := Chg.put2 wr (w.heap.size + 1) (.slice none 0 0) (.slice none 0 0)
                obtain ⟨R0, R1, _, _⟩ := bF.e0
                have hwF := hwr.trans (ch.below (B := w.heap.size) hwr.size (fun b hb => by have : b = w.heap.size + 1 := hb; omega))
                exact bodyPost_ret (v := .agg #[.slice none 0 0, .slice none 0 0]) (by simp [results, Try.results20, go_sem, R0, R1]) rfl ⟨_, _, rfl, by rw [plR_no E.out]; exact OT.nil _ _, hwF.mono hB⟩
              · have hdn : decide (gi z.1 k < 0) = false := decide_eq_false hneg
                have hdg : decide ((n : Int) ≤ gi z.1 k) = true := decide_eq_true (by omega)
                clear hok'
                go_wp2
                have bF := brr.put2 (.slice none 0 0) (.slice none 0 0)
                have ch := Chg.put2 wr (w.heap.size + 1) (.slice none 0 0) (.slice none 0 0)
                obtain ⟨R0, R1, _, _⟩ := bF.e0
                have hwF := hwr.trans (ch.below (B := w.heap.size) hwr.size (fun b hb => by have : b = w.heap.size + 1 := hb; omega))
                exact bodyPost_ret (v := .agg #[.slice none 0 0, .slice none 0 0]) (by simp [results, Try.results20, go_sem, R0, R1]) rfl ⟨_, _, rfl, by rw [plR_no E.out]; exact OT.nil _ _, hwF.mono hB⟩
            | true =>
              have H := Lib.hid hok
              have hok' := of_decide_eq_true hok
              rw [HL.out] at hok'
              obtain ⟨u, hu⟩ : ∃ u : Nat, gi z.1 k = (u : Int) := ⟨(gi z.1 k).toNat, by omega⟩
              have hun : u < n := by omega
              have HX := Lib.hid (atsUp_succ (ps := ps) (xs := z.1) (k := k) (by rw [HM0.out]; exact hlt))
              rw [hu] at hc HX
              obtain ⟨bp, op, A2, n2, c2, rfl, hc1, hc2, r2⟩ := (ha.keep (keeps_below hwr)).at_ hun
              have hui : (u : Int) < (n : Int) := by omega
              have hu0 : (0 : Int) ≤ (u : Int) := by omega
              have hdn : decide ((u : Int) < 0) = false := decide_eq_false (by omega)
              have hdg : decide ((n : Int) ≤ (u : Int)) = false := decide_eq_false (by omega)
              clear hok hok' hu
              generalize hgq : (gq ps u).1 = y at *
              have HG := Lib.hid hgq
              clear hgq
              have hba : Below wr.heap.size wr (wr.alloc (.cells #[.int .i64 y] 2)).drew := Below.drew (below_alloc (Nat.le_refl _) (Below.refl _ _))
              have hv1 := hv.below hba
              have hq1 : RI (wr.alloc (.cells #[.int .i64 y] 2)).drew (some ⟨wr.heap.size, 0, none⟩) 1 1 [y] := RI.one1 ((Box.new wr 2 #[.int .i64 y]).cell 0)
              have bRa := bR.below hba (by omega)
              obtain ⟨ga0, ga1, _, _⟩ := (bR.alloc (.cells #[.int .i64 y] 2)).e0
              go_wp2
              go_region_law (first
                | (refine step_of_list (by rfl) (wp_appI (.tmp 44) (.tmp 50) (by rfl) (wr.alloc (.cells #[.int .i64 y] 2)).drew W.heap.size (.slice Av (atsUp ps z.1 k).length cv) (atsUp ps z.1 k) (by rfl) hv1 (some ⟨wr.heap.size, 0, none⟩) 1 1 [y] (by rfl) hq1 (by omega) (by omega) (by have := hba.size; omega) ?_)
                   intro v3 w3 ho3 hb3 hc3 hat3
                   obtain ⟨Av3, cv3, rfl⟩ := ho3.form
                   rw [List.length_append, List.length_singleton] at ho3
                   have bR3 := bRa.below hb3 (by omega)
                   obtain ⟨g30, g31, h30, h31⟩ := bR3.e0))
              all_goals
                have ch := Chg.set (w := w3) ⟨w.heap.size + 2, 0, none⟩ (.slice Av3 ((atsUp ps z.1 k).length + 1) cv3)
                have bF : Box (w3.setCell ⟨w.heap.size + 2, 0, none⟩ (.slice Av3 ((atsUp ps z.1 k).length + 1) cv3)) (w.heap.size + 2) 28 #[.slice Av3 ((atsUp ps z.1 k).length + 1) cv3, .slice none 0 0] := bR3.set_ 0 _
                have fin := ho3.chg ch (fun b hb hs => by have := (ho3.lt b hb).1; have : b = w.heap.size + 2 := hs; omega)
                have hbx : Below W.heap.size wr w3 := (hba.mono hsz).trans hb3
                have hcF := (hch.then_below hbx (Nat.le_refl _)).trans ch (U := fun b => b = w.heap.size + 2) (fun _ h => h) (fun _ h => h)
                go_wp2
                go_roundw
                case rel => exact ⟨k + 1, _, by omega, by go_num, all_succ HA.out H.out, by rw [HX.out, Int.toNat_natCast, HG.out]; exact fin, bF, hcF⟩
                case measure => simp [intOf]; omega
          · obtain rfl : k = n0 := by omega
            have E0 := Lib.hid (atsOk_of HM0.out hm0 HA.out)
            obtain ⟨x0, x1, _, _⟩ := bxr.e0
            obtain ⟨w1, rfl⟩ : ∃ w1 : World, w1 = wr := ⟨_, rfl⟩
            obtain ⟨X0, rfl⟩ : ∃ X, X = Av := ⟨_, rfl⟩
            obtain ⟨d0, rfl⟩ : ∃ X, X = cv := ⟨_, rfl⟩
            have bo := bR
            replace bx := bxr
            replace br := brr
            replace hw := hwr
            have hsW := hsz
            have HV0 := Lib.hid hv
            go_wp2
            clear hlt hk g0 g1 h0 h1 hch bR hv HA hwr bxr brr hlen hsz hbW x0 x1
            go_loopw [57] (fun i wr => ∃ (k2 : Nat) (v : Value), k2 ≤ n1 ∧ i = .int .i64 k2 ∧ (∀ j, j < k2 → atOk ps (gi z.2 j) = true) ∧ OI 2 wr w1.heap.size v (atsUp ps z.2 k2) ∧ Box wr (w.heap.size + 2) 28 #[.slice X0 (atsUp ps z.1 k).length d0, v] ∧ Chg (fun b => b = w.heap.size + 2) w1 wr) (fun i _ => n1 - (intOf i).toNat)
            case atStart => exact ⟨0, _, Nat.zero_le _, rfl, by omega, OI.nil _ _ _, bo, Chg.refl _ _⟩
            case round =>
              obtain ⟨k2, v, hk, rfl, hall, hv, bR, hch⟩ := hrel
              have HA := Lib.hid hall
              clear hall bo
              obtain ⟨Av, cv, rfl⟩ := hv.form
              have hlen := atsUp_len ps z.2 k2
              have hsz := hch.size
              have hbW : Below (w.heap.size + 2) w1 wr := hch.below (by omega) (fun b hb => by have : b = w.heap.size + 2 := hb; omega)
              have hwr : Below w.heap.size w wr := hw.trans (hbW.mono (by omega))
              have bxr := bx.below hbW (by omega)
              have brr := br.below hbW (by omega)
              obtain ⟨g0, g1, h0, h1⟩ := bR.e0
              by_cases hlt : k2 < n1
              · obtain ⟨bb, off, rfl, hc⟩ := (r1.keep (keeps_below hwr)).at_ hlt
                have hki : (k2 : Int) < (n1 : Int) := by omega
                have hk0 : (0 : Int) ≤ (k2 : Int) := by omega
                cases hok : atOk ps (gi z.2 k2) with
                | false =>
                  have E := Lib.hid (show plOk ps z = false by unfold plOk; rw [atsOk_no HM1.out hlt hok]; simp)
                  obtain ⟨p0, p1, f0, f1⟩ := brr.e0
                  have hok' := of_decide_eq_false hok
                  rw [HL.out] at hok'
                  clear hok
                  by_cases hneg : gi z.2 k2 < 0
                  · have hdn : decide (gi z.2 k2 < 0) = true := decide_eq_true hneg
                    clear hok'
                    go_wp2
                    have bF := brr.put2 (.slice none 0 0) (.slice none 0 0)
                    have ch := Chg.put2 wr (w.heap.size + 1) (.slice none 0 0) (.slice none 0 0)
                    obtain ⟨R0, R1, _, _⟩ := bF.e0
                    have hwF := hwr.trans (ch.below (B := w.heap.size) hwr.size (fun b hb => by have : b = w.heap.size + 1 := hb; omega))
                    exact bodyPost_ret (v := .agg #[.slice none 0 0, .slice none 0 0]) (by simp [results, Try.results20, go_sem, R0, R1]) rfl ⟨_, _, rfl, by rw [plR_no E.out]; exact OT.nil _ _, hwF.mono hB⟩
                  · have hdn : decide (gi z.2 k2 < 0) = false := decide_eq_false hneg
                    have hdg : decide ((n : Int) ≤ gi z.2 k2) = true := decide_eq_true (by omega)
                    clear hok'
                    go_wp2
                    have bF := brr.put2 (.slice none 0 0) (.slice none 0 0)
                    have ch := Chg.put2 wr (w.heap.size + 1) (.slice none 0 0) (.slice none 0 0)
                    obtain ⟨R0, R1, _, _⟩ := bF.e0
                    have hwF := hwr.trans (ch.below (B := w.heap.size) hwr.size (fun b hb => by have : b = w.heap.size + 1 := hb; omega))
                    exact bodyPost_ret (v := .agg #[.slice none 0 0, .slice none 0 0]) (by simp [results, Try.results20, go_sem, R0, R1]) rfl ⟨_, _, rfl, by rw [plR_no E.out]; exact OT.nil _ _, hwF.mono hB⟩
                | true =>
                  have H := Lib.hid hok
                  have hok' := of_decide_eq_true hok
                  rw [HL.out] at hok'
                  obtain ⟨u, hu⟩ : ∃ u : Nat, gi z.2 k2 = (u : Int) := ⟨(gi z.2 k2).toNat, by omega⟩
                  have hun : u < n := by omega
                  have HX := Lib.hid (atsUp_succ (ps := ps) (xs := z.2) (k := k2) (by rw [HM1.out]; exact hlt))
                  rw [hu] at hc HX
                  obtain ⟨bp, op, A2, n2, c2, rfl, hc1, hc2, r2⟩ := (ha.keep (keeps_below hwr)).at_ hun
                  have hui : (u : Int) < (n : Int) := by omega
                  have hu0 : (0 : Int) ≤ (u : Int) := by omega
                  have hdn : decide ((u : Int) < 0) = false := decide_eq_false (by omega)
                  have hdg : decide ((n : Int) ≤ (u : Int)) = false := decide_eq_false (by omega)
                  clear hok hok' hu
                  generalize hgq : (gq ps u).1 = y at *
                  have HG := Lib.hid hgq
                  clear hgq
                  have hba : Below wr.heap.size wr (wr.alloc (.cells #[.int .i64 y] 2)).drew := Below.drew (below_alloc (Nat.le_refl _) (Below.refl _ _))
                  have hv1 := hv.below hba
                  have hq1 : RI (wr.alloc (.cells #[.int .i64 y] 2)).drew (some ⟨wr.heap.size, 0, none⟩) 1 1 [y] := RI.one1 ((Box.new wr 2 #[.int .i64 y]).cell 0)
                  have bRa := bR.below hba (by omega)
                  obtain ⟨ga0, ga1, _, _⟩ := (bR.alloc (.cells #[.int .i64 y] 2)).e0
                  go_wp2
                  go_region_law (first
                    | (refine step_of_list (by rfl) (wp_appI (.tmp 71) (.tmp 77) (by rfl) (wr.alloc (.cells #[.int .i64 y] 2)).drew w1.heap.size (.slice Av (atsUp ps z.2 k2).length cv) (atsUp ps z.2 k2) (by rfl) hv1 (some ⟨wr.heap.size, 0, none⟩) 1 1 [y] (by rfl) hq1 (by omega) (by omega) (by have := hba.size; omega) ?_)
                       intro v3 w3 ho3 hb3 hc3 hat3
                       obtain ⟨Av3, cv3, rfl⟩ := ho3.form
                       rw [List.length_append, List.length_singleton] at ho3
                       have bR3 := bRa.below hb3 (by omega)
                       obtain ⟨g30, g31, h30, h31⟩ := bR3.e0))
                  all_goals
                    have ch := Chg.set (w := w3) ⟨w.heap.size + 2, 1, none⟩ (.slice Av3 ((atsUp ps z.2 k2).length + 1) cv3)
                    have bF : Box (w3.setCell ⟨w.heap.size + 2, 1, none⟩ (.slice Av3 ((atsUp ps z.2 k2).length + 1) cv3)) (w.heap.size + 2) 28 #[.slice X0 (atsUp ps z.1 k).length d0, .slice Av3 ((atsUp ps z.2 k2).length + 1) cv3] := bR3.set_ 1 _
                    have fin := ho3.chg ch (fun b hb hs => by have := (ho3.lt b hb).1; have : b = w.heap.size + 2 := hs; omega)
                    have hbx : Below w1.heap.size wr w3 := (hba.mono hsz).trans hb3
                    have hcF := (hch.then_below hbx (Nat.le_refl _)).trans ch (U := fun b => b = w.heap.size + 2) (fun _ h => h) (fun _ h => h)
                    go_wp2
                    go_roundw
                    case rel => exact ⟨k2 + 1, _, by omega, by go_num, all_succ HA.out H.out, by rw [HX.out, Int.toNat_natCast, HG.out]; exact fin, bF, hcF⟩
                    case measure => simp [intOf]; omega
              · obtain rfl : k2 = n1 := by omega
                have E := Lib.hid (show plOk ps z = true by unfold plOk; rw [E0.out, atsOk_of HM1.out hm1 HA.out, decide_eq_true (by rw [HL.out]; exact hn)]; rfl)
                have E1 := Lib.hid (show plR ps z = (atsUp ps z.1 k, atsUp ps z.2 k2) from (plR_yes E.out).trans (by unfold atsL; rw [if_pos E0.out, if_pos (atsOk_of HM1.out hm1 HA.out), HM0.out, HM1.out]))
                have hb02 := HV0.out.chg hch (fun b hb hs => by have := (HV0.out.lt b hb).1; have : b = w.heap.size + 2 := hs; omega)
                have hap : Apart (.slice X0 (atsUp ps z.1 k).length d0) (.slice Av (atsUp ps z.2 k2).length cv) := apart_of fun b h1 h2 => by have := (HV0.out.lt b h1).2; have := (hv.lt b h2).1; omega
                obtain ⟨p0, p1, f0, f1⟩ := brr.e0
                go_wp2
                have CH := Chg.put2 wr (w.heap.size + 1) (.slice X0 (atsUp ps z.1 k).length d0) (.slice Av (atsUp ps z.2 k2).length cv)
                have fin1 := hb02.chg CH (fun b hb hs => by have := (hb02.lt b hb).1; have : b = w.heap.size + 1 := hs; omega)
                have fin2 := hv.chg CH (fun b hb hs => by have := (hv.lt b hb).1; have : b = w.heap.size + 1 := hs; omega)
                have bF := brr.put2 (.slice X0 (atsUp ps z.1 k).length d0) (.slice Av (atsUp ps z.2 k2).length cv)
                have ch := Chg.put2 wr (w.heap.size + 1) (.slice X0 (atsUp ps z.1 k).length d0) (.slice Av (atsUp ps z.2 k2).length cv)
                obtain ⟨R0, R1, _, _⟩ := bF.e0
                have hwF := hwr.trans (ch.below (B := w.heap.size) hwr.size (fun b hb => by have : b = w.heap.size + 1 := hb; omega))
                exact bodyPost_ret (v := .agg #[.slice X0 (atsUp ps z.1 k).length d0, .slice Av (atsUp ps z.2 k2).length cv]) (by simp [results, Try.results20, go_sem, R0, R1]) rfl ⟨_, _, rfl, by rw [E1.out]; exact ⟨fin1.more (by omega), fin2.more (by omega), hap⟩, hwF.mono hB⟩
      · have hd1 : decide ((256 : Int) < (n1 : Int)) = true := decide_eq_true (by omega)
        have E := Lib.hid (show plOk ps z = false by unfold plOk; rw [atsOk_long HM1.out hm1]; simp)
        go_enter Try.func20, Try.ntmps20
        go_wp2
        exact bodyPost_ret (v := .agg #[.slice none 0 0, .slice none 0 0]) (by simp [results, Try.results20, go_sem]) rfl ⟨_, _, rfl, by rw [plR_no E.out]; exact OT.nil _ _, hw.mono hB⟩
    · have hd0 : decide ((256 : Int) < (n0 : Int)) = true := decide_eq_true (by omega)
      have E := Lib.hid (show plOk ps z = false by unfold plOk; rw [atsOk_long HM0.out hm0]; simp)
      go_enter Try.func20, Try.ntmps20
      go_wp2
      exact bodyPost_ret (v := .agg #[.slice none 0 0, .slice none 0 0]) (by simp [results, Try.results20, go_sem]) rfl ⟨_, _, rfl, by rw [plR_no E.out]; exact OT.nil _ _, hw.mono hB⟩
  · have hd : decide ((256 : Int) < (n : Int)) = true := decide_eq_true (by omega)
    have E := Lib.hid (show plOk ps z = false by unfold plOk; rw [decide_eq_false (by rw [HL.out]; exact hn)]; rfl)
    go_enter Try.func20, Try.ntmps20
    go_wp2
    exact bodyPost_ret (v := .agg #[.slice none 0 0, .slice none 0 0]) (by simp [results, Try.results20, go_sem]) rfl ⟨_, _, rfl, by rw [plR_no E.out]; exact OT.nil _ _, hw.mono hB⟩

end Go.Proofs.Ytgbiceilcmhimaa
