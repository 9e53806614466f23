/- Contracts: spec.RecordOk, impl.isRecord, impl.RecordOk, laws.toInt64S; the law FnExactRecordOk walked. -/
import Derived.Test.YtlepekglmofelaaFn1
import Derived.Deep.OwnRows
namespace Go.Proofs.Ytlepekglmofelaa
open Go.RowKit

def recOk (xs : List Int) (k : Int) : Bool := decide (0 ≤ k ∧ k ≤ 4 ∧ (xs.length : Int) = k ∧ (∀ x ∈ xs, 0 ≤ x ∧ x < k) ∧ xs.Nodup)

theorem recOk_len {xs : List Int} {n : Nat} {k : Int} (hl : xs.length = n) (h : ¬ (n : Int) = k) : recOk xs k = false := by
  refine decide_eq_false fun ⟨_, _, h3, _⟩ => ?_
  rw [hl] at h3; exact h h3
theorem recOk_k {xs : List Int} {k : Int} (h : inR k 0 4 = false) : recOk xs k = false := by
  refine decide_eq_false fun ⟨h1, h2, _⟩ => ?_
  have := of_decide_eq_false h
  exact this ⟨h1, h2⟩
theorem recOk_in {xs : List Int} {n i : Nat} {k : Int} (hl : xs.length = n) (hi : i < n) (h : inR (gi xs i) 0 (k - 1) = false) : recOk xs k = false := by
  refine decide_eq_false fun ⟨_, _, _, h4, _⟩ => ?_
  have h5 := h4 _ (gi_mem (show i < xs.length by omega))
  have := of_decide_eq_false h
  omega
theorem nodup_take {xs : List Int} {i : Nat} (hi : i < xs.length) (h : gi xs i ∈ xs.take i) : ¬ xs.Nodup := by
  intro hn
  obtain ⟨j, hj, e⟩ := mem_gi h
  have hj' : j < i := by simp at hj; omega
  rw [gi_take hj', gi_get (by omega), gi_get hi] at e
  exact (List.pairwise_iff_getElem.1 hn) j i (by omega) hi hj' e
theorem recOk_has {xs : List Int} {n i : Nat} {k : Int} (hl : xs.length = n) (hi : i < n) (h : hasL (xs.take i) (gi xs i) = true) : recOk xs k = false :=
  decide_eq_false fun ⟨_, _, _, _, h5⟩ => nodup_take (by omega) (of_decide_eq_true h) h5
theorem nodup_of_take {xs : List Int} : ∀ i, i ≤ xs.length → (∀ j, j < i → gi xs j ∉ xs.take j) → (xs.take i).Nodup
  | 0, _, _ => by simp
  | i + 1, h, hh => by
    rw [take_gi h, List.nodup_append]
    refine ⟨nodup_of_take i (by omega) fun j hj => hh j (by omega), by simp, ?_⟩
    intro a ha b hb
    simp only [List.mem_singleton] at hb
    subst hb
    exact fun e => hh i (by omega) (e ▸ ha)
theorem recOk_of {xs : List Int} {n : Nat} {k : Int} (hl : xs.length = n) (hk : inR k 0 4 = true) (hn : (n : Int) = k)
    (h : ∀ j, j < n → inR (gi xs j) 0 (k - 1) = true ∧ hasL (xs.take j) (gi xs j) = false) : recOk xs k = true := by
  have := of_decide_eq_true hk
  refine decide_eq_true ⟨by omega, by omega, by omega, fun x hx => ?_, ?_⟩
  · obtain ⟨i, hi, rfl⟩ := mem_gi hx
    have := of_decide_eq_true (h i (by omega)).1
    omega
  · have := nodup_of_take xs.length (Nat.le_refl _) fun j hj => of_decide_eq_false (h j (by omega)).2
    rwa [List.take_length] at this

set_option maxHeartbeats 400000 in
theorem specRecordOk (A : Option Addr) (n c : Nat) (xs : List Int) (k : Int) (w : World) (ha : RI w A n c xs) :
    Calls Try.prog 122 #[.slice A n c, .int .i64 k] w fun e w' => e = .returned (.bool (recOk xs k)) ∧ Qt w w' := by
  have b1 := ha.cap; have b2 := ha.top
  by_cases h1 : inR k 0 4 = true
  · by_cases h2 : (n : Int) = k
    · have H1 := Lib.hid h1
      have h2' : ((n : Int) != k) = false := by simp [h2]
      have H2 := Lib.hid h2
      have hk2 : k ≤ 4 := (of_decide_eq_true h1).2
      clear h2
      go_enter Try.func122, Try.ntmps122
      go_wp2_with (go_at_call 68; refine (l1In _ _ _ _).mono ?_; rintro e w' ⟨rfl, q, rfl⟩)
      go_loopw [5] (fun i wr => ∃ j : Nat, j ≤ n ∧ i = .int .i64 j ∧ (∀ i, i < j → inR (gi xs i) 0 (k - 1) = true ∧ hasL (xs.take i) (gi xs i) = false) ∧ ∃ q, wr = w.drewN q) (fun i _ => n - (intOf i).toNat)
      case atStart => exact ⟨0, Nat.zero_le _, rfl, by omega, _, rfl⟩
      case round =>
        obtain ⟨j, hj, rfl, hall, q, rfl⟩ := hrel
        have HA := Lib.hid hall
        clear hall
        by_cases hlt : j < n
        · obtain ⟨b, off, rfl, hc1⟩ := ha.at_ hlt
          have hji : (j : Int) < (n : Int) := by omega
          have hj0 : (0 : Int) ≤ (j : Int) := by omega
          have hk1 : 1 ≤ k := by rw [← H2.out]; omega
          have e1 : IntKind.i64.wrap (k - 1) = k - 1 := IntWalk.i64_in _ (by omega)
          by_cases h3 : inR (gi xs j) 0 (k - 1) = true
          · by_cases h4 : hasL (xs.take j) (gi xs j) = true
            · go_wp2
              go_quiet ((first | (go_at_call 68; exact quiet1 (l1In _ _ _ _)) | (go_at_call 111; exact quiet1 (l16Has _ _ _ _ _ _ (ha.take hj)))))
              go_wp2
              go_ret
              exact ⟨ret_b (recOk_has ha.len hlt h4).symm, Qt.drew2 _ _⟩
            · have h4' : hasL (xs.take j) (gi xs j) = false := by simpa using h4
              clear h4
              go_wp2
              go_quiet ((first | (go_at_call 68; exact quiet1 (l1In _ _ _ _)) | (go_at_call 111; exact quiet1 (l16Has _ _ _ _ _ _ (ha.take hj)))))
              go_wp2
              go_roundw
              case rel => exact ⟨j + 1, by omega, by go_num, all_succ HA.out ⟨h3, h4'⟩, _, rfl⟩
              case measure => simp [intOf]; omega
          · have h3' : inR (gi xs j) 0 (k - 1) = false := by simpa using h3
            clear h3
            go_wp2
            go_quiet ((first | (go_at_call 68; exact quiet1 (l1In _ _ _ _)) | (go_at_call 111; exact quiet1 (l16Has _ _ _ _ _ _ (ha.take hj)))))
            go_wp2
            go_ret
            exact ⟨ret_b (recOk_in ha.len hlt h3').symm, Qt.drew2 _ _⟩
        · go_wp2
          go_ret
          obtain rfl : j = n := by omega
          exact ⟨ret_b (recOk_of ha.len H1.out H2.out HA.out).symm, _, rfl⟩
    · have h2' : ((n : Int) != k) = true := by simp [h2]
      have H2 := Lib.hid h2
      clear h2
      go_enter Try.func122, Try.ntmps122
      go_wp2_with (go_at_call 68; refine (l1In _ _ _ _).mono ?_; rintro e w' ⟨rfl, q, rfl⟩)
      go_ret
      exact ⟨ret_b (recOk_len ha.len H2.out).symm, _, rfl⟩
  · have h1' : inR k 0 4 = false := by simpa using h1
    clear h1
    have H := Lib.hid h1'
    go_enter Try.func122, Try.ntmps122
    go_wp2_with (go_at_call 68; refine (l1In _ _ _ _).mono ?_; rintro e w' ⟨rfl, q, rfl⟩)
    go_ret
    exact ⟨ret_b (recOk_k H.out).symm, _, rfl⟩
end Go.Proofs.Ytlepekglmofelaa
