/- Contracts of ShapeOk: spec and impl. -/
import Derived.Test.YtkhkdnmpbfmmeaaDoorFn4
namespace Go.Proofs.YtkhkdnmpbfmmeaaDoor
open Go.RowKit

def isPl (x : Int) : Bool := decide (x = 0 ∨ x = 1)
def entOk (p : List Int) : Bool := decide (p.length ≤ 256 ∧ ∀ u ∈ p, -1 ≤ u ∧ u < 256)
def shapeOk (won plan : List Int) : Bool := decide (won.length ≤ 256 ∧ won.length = plan.length ∧ (∀ x ∈ won, x = 0 ∨ x = 1) ∧ ∀ u ∈ plan, -1 ≤ u ∧ u < 256)

theorem isPlayer (x : Int) (w : World) :
    Calls Tryd.prog 85 #[.int .i64 x] w fun e w' => e = .returned (.bool (isPl x)) ∧ Qt w w' := by
  by_cases h0 : x = 0
  · have E := Lib.hid (show isPl x = true from decide_eq_true (.inl h0))
    have h : (x == 0) = true := by simp [h0]
    clear h0
    go_enter Tryd.func85, Tryd.ntmps85
    go_wp2
    go_ret
    exact ⟨ret_b E.out.symm, Qt.refl _⟩
  · have h : (x == 0) = false := by simp [h0]
    by_cases h1 : x = 1
    · have E := Lib.hid (show isPl x = true from decide_eq_true (.inr h1))
      have h' : (x == 1) = true := by simp [h1]
      clear h0 h1
      go_enter Tryd.func85, Tryd.ntmps85
      go_wp2
      go_ret
      exact ⟨ret_b E.out.symm, Qt.refl _⟩
    · have E := Lib.hid (show isPl x = false from decide_eq_false (by omega))
      have h' : (x == 1) = false := by simp [h1]
      clear h0 h1
      go_enter Tryd.func85, Tryd.ntmps85
      go_wp2
      go_ret
      exact ⟨ret_b E.out.symm, Qt.refl _⟩

theorem areEntries (A : Option Addr) (n c : Nat) (xs : List Int) (w : World) (ha : RI w A n c xs) :
    Calls Tryd.prog 55 #[.slice A n c] w fun e w' => e = .returned (.bool (entOk xs)) ∧ Qt w w' := by
  have b1 := ha.cap; have b2 := ha.top
  go_enter Tryd.func55, Tryd.ntmps55
  go_wp2
  go_loop [7] (fun i => ∃ k : Nat, k ≤ n ∧ i = .int .i64 k ∧ (∀ j, j < k → -1 ≤ gi xs j ∧ gi xs j < 256)) (fun i => n - (intOf i).toNat)
  case atStart => exact ⟨0, Nat.zero_le _, rfl, by omega⟩
  case round =>
    obtain ⟨k, hk, rfl, hall⟩ := hrel
    have HA := Lib.hid hall
    clear hall
    by_cases hlt : k < n
    · obtain ⟨b, off, rfl, hc1⟩ := ha.at_ hlt
      have hbad : ¬ (-1 ≤ gi xs k ∧ gi xs k < 256) → entOk xs = false := fun hb => decide_eq_false fun h => hb (h.2 _ (gi_mem (by rw [ha.len]; exact hlt)))
      by_cases h1 : gi xs k < -1
      · have E := Lib.hid (hbad (by omega))
        clear hbad
        go_wp2
        go_ret
        exact ⟨ret_b E.out.symm, Qt.refl _⟩
      by_cases h2 : 256 ≤ gi xs k
      · have E := Lib.hid (hbad (by omega))
        clear hbad
        go_wp2
        go_ret
        exact ⟨ret_b E.out.symm, Qt.refl _⟩
      clear hbad
      have h3 : -1 ≤ gi xs k := by omega
      have h4 : gi xs k < 256 := by omega
      go_wp2
      go_round
      case rel => exact ⟨k + 1, by omega, by go_num, all_succ HA.out ⟨h3, h4⟩⟩
      case measure => simp [intOf]; omega
    · obtain rfl : k = n := by omega
      have hall : ∀ u ∈ xs, -1 ≤ u ∧ u < 256 := fun u hu => by
        obtain ⟨i, hi, rfl⟩ := mem_gi hu
        exact HA.out i (by rw [← ha.len]; exact hi)
      by_cases h5 : k ≤ 256
      · have E := Lib.hid (show entOk xs = true from decide_eq_true ⟨by rw [ha.len]; exact h5, hall⟩)
        clear hall
        go_wp2
        go_ret
        exact ⟨ret_b (by rw [E.out]; simp; omega), Qt.refl _⟩
      · have E := Lib.hid (show entOk xs = false from decide_eq_false fun h => h5 (by rw [← ha.len]; exact h.1))
        clear hall
        go_wp2
        go_ret
        exact ⟨ret_b (by rw [E.out]; simp; omega), Qt.refl _⟩

theorem l13Choice (x : Int) (w : World) :
    Calls Tryd.prog 53 #[.int .i64 x] w fun e w' => e = .returned (.bool (inR x (-1) 255)) ∧ Qt w w' := by
  go_enter Tryd.func53, Tryd.ntmps53
  go_wp2_with (go_at_call 61; refine (l1In _ _ _ _).mono ?_; rintro e w' ⟨rfl, q, rfl⟩)
  go_ret
  exact ⟨rfl, _, rfl⟩

set_option maxHeartbeats 400000 in
theorem specShapeOk (A A' : Option Addr) (n c m d : Nat) (xs ys : List Int) (w : World) (B : Nat) (hB : B ≤ w.heap.size) (ha : RI w A n c xs) (hb : RI w A' m d ys) :
    Calls Tryd.prog 48 #[.agg #[.slice A n c, .slice A' m d]] w fun e w' => e = .returned (.bool (shapeOk xs ys)) ∧ Below B w w' := by
  have b1 := ha.cap; have b2 := ha.top; have b3 := hb.cap; have b4 := hb.top
  by_cases h1 : 256 < n
  · have E := Lib.hid (show shapeOk xs ys = false from decide_eq_false fun h => by have := h.1; rw [ha.len] at this; omega)
    go_enter Tryd.func48, Tryd.ntmps48
    go_wp2
    go_ret
    refine ⟨ret_b E.out.symm, ?_⟩
    repeat (first | exact Below.refl _ _ | refine below_drewN ?_ _ | refine below_alloc hB ?_)
  by_cases h2 : n = m
  · subst h2
    have h2' : ((n : Int) != (n : Int)) = false := by simp
    have ha' := ha.keep (keeps_alloc w (.cells #[.slice A n c, .slice A' n d] 27))
    have hb' := hb.keep (keeps_alloc w (.cells #[.slice A n c, .slice A' n d] 27))
    go_enter Tryd.func48, Tryd.ntmps48
    go_wp2
    go_loopw [3] (fun i wr => ∃ k : Nat, k ≤ n ∧ i = .int .i64 k ∧ (∀ j, j < k → inR (gi xs j) 0 1 = true ∧ inR (gi ys j) (-1) 255 = true) ∧ ∃ q, wr = (w.alloc (.cells #[.slice A n c, .slice A' n d] 27)).drewN q) (fun i _ => n - (intOf i).toNat)
    case atStart => exact ⟨0, Nat.zero_le _, rfl, by omega, 0, rfl⟩
    case round =>
      obtain ⟨k, hk, rfl, hall, q, rfl⟩ := hrel
      have HA := Lib.hid hall
      clear hall
      by_cases hlt : k < n
      · obtain ⟨b, off, rfl, hc1⟩ := ha'.at_ hlt
        obtain ⟨b', off', rfl, hc2⟩ := hb'.at_ hlt
        by_cases h3 : inR (gi xs k) 0 1 = true
        · by_cases h4 : inR (gi ys k) (-1) 255 = true
          · go_wp2_with (first | (go_at_call 61; refine (l1In _ _ _ _).mono ?_; rintro e w' ⟨rfl, q1, rfl⟩) | (go_at_call 53; refine (l13Choice _ _).mono ?_; rintro e w' ⟨rfl, q2, rfl⟩))
            go_roundw
            case rel => exact ⟨k + 1, by omega, by go_num, all_succ HA.out ⟨h3, h4⟩, _, rfl⟩
            case measure => simp [intOf]; omega
          · replace h4 : inR (gi ys k) (-1) 255 = false := by simpa using h4
            have E := Lib.hid (show shapeOk xs ys = false from decide_eq_false fun h => by
              have h5 := of_decide_eq_false h4
              have h6 := h.2.2.2 _ (gi_mem (show k < ys.length by rw [hb.len]; exact hlt))
              omega)
            go_wp2_with (first | (go_at_call 61; refine (l1In _ _ _ _).mono ?_; rintro e w' ⟨rfl, q1, rfl⟩) | (go_at_call 53; refine (l13Choice _ _).mono ?_; rintro e w' ⟨rfl, q2, rfl⟩))
            go_ret
            refine ⟨ret_b E.out.symm, ?_⟩
            repeat (first | exact Below.refl _ _ | refine below_drewN ?_ _ | refine below_alloc hB ?_)
        · replace h3 : inR (gi xs k) 0 1 = false := by simpa using h3
          have E := Lib.hid (show shapeOk xs ys = false from decide_eq_false fun h => by
            have h5 := of_decide_eq_false h3
            have h6 := h.2.2.1 _ (gi_mem (show k < xs.length by rw [ha.len]; exact hlt))
            omega)
          go_wp2_with (first | (go_at_call 61; refine (l1In _ _ _ _).mono ?_; rintro e w' ⟨rfl, q1, rfl⟩) | (go_at_call 53; refine (l13Choice _ _).mono ?_; rintro e w' ⟨rfl, q2, rfl⟩))
          go_ret
          refine ⟨ret_b E.out.symm, ?_⟩
          repeat (first | exact Below.refl _ _ | refine below_drewN ?_ _ | refine below_alloc hB ?_)
      · obtain rfl : k = n := by omega
        have E := Lib.hid (show shapeOk xs ys = true from decide_eq_true ⟨by rw [ha.len]; omega, by rw [ha.len, hb.len], fun x hx => by
          obtain ⟨i, hi, rfl⟩ := mem_gi hx
          have := of_decide_eq_true (HA.out i (by rw [← ha.len]; exact hi)).1
          omega, fun x hx => by
          obtain ⟨i, hi, rfl⟩ := mem_gi hx
          have := of_decide_eq_true (HA.out i (by rw [← hb.len]; exact hi)).2
          omega⟩)
        go_wp2
        go_ret
        refine ⟨ret_b E.out.symm, ?_⟩
        repeat (first | exact Below.refl _ _ | refine below_drewN ?_ _ | refine below_alloc hB ?_)
  · have h2' : ((n : Int) != (m : Int)) = true := by simp; omega
    have E := Lib.hid (show shapeOk xs ys = false from decide_eq_false fun h => h2 (by rw [← ha.len, ← hb.len]; exact h.2.1))
    clear h2
    go_enter Tryd.func48, Tryd.ntmps48
    go_wp2
    go_ret
    refine ⟨ret_b E.out.symm, ?_⟩
    repeat (first | exact Below.refl _ _ | refine below_drewN ?_ _ | refine below_alloc hB ?_)

set_option maxHeartbeats 400000 in
theorem isShape (A A' : Option Addr) (n c m d : Nat) (xs ys : List Int) (w : World) (B : Nat) (hB : B ≤ w.heap.size) (ha : RI w A n c xs) (hb : RI w A' m d ys) :
    Calls Tryd.prog 51 #[.agg #[.slice A n c, .slice A' m d]] w fun e w' => e = .returned (.bool (shapeOk xs ys)) ∧ Below B w w' := by
  have b1 := ha.cap; have b2 := ha.top; have b3 := hb.cap; have b4 := hb.top
  by_cases h2 : n = m
  · subst h2
    have h2' : ((n : Int) != (n : Int)) = false := by simp
    have ha' := ha.keep (keeps_alloc w (.cells #[.slice A n c, .slice A' n d] 27))
    have hb' := hb.keep (keeps_alloc w (.cells #[.slice A n c, .slice A' n d] 27))
    by_cases h3 : entOk ys = true
    · have H3 := Lib.hid h3
      go_enter Tryd.func51, Tryd.ntmps51
      go_wp2_with (go_at_call 55; refine (areEntries _ _ _ _ _ hb').mono ?_; rintro e w' ⟨rfl, q, rfl⟩)
      go_loopw [21] (fun i wr => ∃ k : Nat, k ≤ n ∧ i = .int .i64 k ∧ (∀ j, j < k → isPl (gi xs j) = true) ∧ ∃ q, wr = (w.alloc (.cells #[.slice A n c, .slice A' n d] 27)).drewN q) (fun i _ => n - (intOf i).toNat)
      case atStart => exact ⟨0, Nat.zero_le _, rfl, by omega, _, rfl⟩
      case round =>
        obtain ⟨k, hk, rfl, hall, q, rfl⟩ := hrel
        have HA := Lib.hid hall
        clear hall
        by_cases hlt : k < n
        · obtain ⟨b, off, rfl, hc1⟩ := ha'.at_ hlt
          by_cases h4 : isPl (gi xs k) = true
          · go_wp2_with (go_at_call 85; refine (isPlayer _ _).mono ?_; rintro e w' ⟨rfl, q1, rfl⟩)
            go_roundw
            case rel => exact ⟨k + 1, by omega, by go_num, all_succ HA.out h4, _, rfl⟩
            case measure => simp [intOf]; omega
          · replace h4 : isPl (gi xs k) = false := by simpa using h4
            have E := Lib.hid (show shapeOk xs ys = false from decide_eq_false fun h => of_decide_eq_false h4 (h.2.2.1 _ (gi_mem (by rw [ha.len]; exact hlt))))
            go_wp2_with (go_at_call 85; refine (isPlayer _ _).mono ?_; rintro e w' ⟨rfl, q1, rfl⟩)
            go_ret
            refine ⟨ret_b E.out.symm, ?_⟩
            repeat (first | exact Below.refl _ _ | refine below_drewN ?_ _ | refine below_alloc hB ?_)
        · obtain rfl : k = n := by omega
          have E := Lib.hid (show shapeOk xs ys = true from decide_eq_true ⟨by have := (of_decide_eq_true H3.out).1; rw [hb.len] at this; rw [ha.len]; omega, by rw [ha.len, hb.len], fun x hx => by
            obtain ⟨i, hi, rfl⟩ := mem_gi hx
            exact of_decide_eq_true (HA.out i (by rw [← ha.len]; exact hi)), (of_decide_eq_true H3.out).2⟩)
          go_wp2
          go_ret
          refine ⟨ret_b E.out.symm, ?_⟩
          repeat (first | exact Below.refl _ _ | refine below_drewN ?_ _ | refine below_alloc hB ?_)
    · replace h3 : entOk ys = false := by simpa using h3
      have E := Lib.hid (show shapeOk xs ys = false from decide_eq_false fun h => of_decide_eq_false h3 ⟨by rw [← h.2.1]; exact h.1, h.2.2.2⟩)
      go_enter Tryd.func51, Tryd.ntmps51
      go_wp2_with (go_at_call 55; refine (areEntries _ _ _ _ _ hb').mono ?_; rintro e w' ⟨rfl, q, rfl⟩)
      go_ret
      refine ⟨ret_b E.out.symm, ?_⟩
      repeat (first | exact Below.refl _ _ | refine below_drewN ?_ _ | refine below_alloc hB ?_)
  · have h2' : ((n : Int) != (m : Int)) = true := by simp; omega
    have E := Lib.hid (show shapeOk xs ys = false from decide_eq_false fun h => h2 (by rw [← ha.len, ← hb.len]; exact h.2.1))
    clear h2
    go_enter Tryd.func51, Tryd.ntmps51
    go_wp2
    go_ret
    refine ⟨ret_b E.out.symm, ?_⟩
    repeat (first | exact Below.refl _ _ | refine below_drewN ?_ _ | refine below_alloc hB ?_)

end Go.Proofs.YtkhkdnmpbfmmeaaDoor
