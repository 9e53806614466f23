/- Writers of numbers and players, spec and impl: contracts. -/
import Derived.Test.YtkhkdnmpbfmmeaaDoorTxtR
import Derived.Test.YtkhkdnmpbfmmeaaDoorLays
import Derived.Lib.AppendIntMem
namespace Go.Proofs.YtkhkdnmpbfmmeaaDoor
open Go.RowKit

/-- the last digit -/
def dgt (m : Nat) : UInt8 := UInt8.ofNat (48 + m % 10)
/-- what spec.l1Int has: the digits built so far, and the number that is left -/
def l1J (u m : Nat) (l : List UInt8) : Prop := (l = [] ∧ m = u) ∨ (l ≠ [] ∧ (if m = 0 then l = Lib.decDigits u else Lib.decDigits m ++ l = Lib.decDigits u))
theorem l1J_step {u m : Nat} {l : List UInt8} (h : l1J u m l) (hc : l = [] ∨ m ≠ 0) : l1J u (m / 10) (dgt m :: l) := by
  refine .inr ⟨by simp, ?_⟩
  have key : Lib.decDigits m ++ l = Lib.decDigits u := by
    rcases h with ⟨rfl, rfl⟩ | ⟨h1, h2⟩
    · simp
    · rcases hc with hc | hc
      · exact absurd hc h1
      · rwa [if_neg hc] at h2
  by_cases h10 : m < 10
  · rw [if_pos (by omega), ← key, dec_small h10]
    unfold dgt
    rw [Nat.mod_eq_of_lt h10]
    rfl
  · rw [if_neg (by omega), ← key, dec_big h10]
    simp [dgt]
theorem l1J_end {u m : Nat} {l : List UInt8} (h : l1J u m l) (h1 : l ≠ []) (h2 : m = 0) : l = Lib.decDigits u := by
  rcases h with ⟨h, _⟩ | ⟨_, h⟩
  · exact absurd h h1
  · rwa [if_pos h2] at h

theorem l1J_len {u m : Nat} {l : List UInt8} (hu : u < 1000000000) (h : l1J u m l) : l.length ≤ 9 := by
  have hd := dec_len9 hu
  rcases h with ⟨rfl, _⟩ | ⟨_, h⟩
  · simp
  · split at h
    · rw [h]; exact hd
    · have := congrArg List.length h
      rw [List.length_append] at this
      omega
theorem tx_empty : (tx []).toList.isEmpty = true := by rw [Lib.toList_data]; rfl
theorem tx_filled {l : List UInt8} (h : l ≠ []) : (tx l).toList.isEmpty = false := by
  rw [Lib.toList_data, tx_data]
  cases l with
  | nil => exact absurd rfl h
  | cons x r => rfl
theorem conv_digit (wr : World) (m : Nat) : (convert 63 9 (.slice (some ⟨wr.heap.size, 0, none⟩) 1 1)).run Tryd.prog (wr.alloc (.cells #[.int .u8 (48 + (m : Int) % 10)] 5)) = .ok (.string (tx [dgt m])) (wr.alloc (.cells #[.int .u8 (48 + (m : Int) % 10)] 5)) :=
  run_convert_bytes_back _ _ _ 5 ⟨wr.heap.size, 0, none⟩ 1 [dgt m] Tryd.underlying63 Tryd.underlying5 Tryd.underlying9 (fun j hj => by
    have h0 : j = 0 := by simp at hj; omega
    subst h0
    rw [show ((⟨wr.heap.size, 0, none⟩ : Addr).add 0) = ⟨wr.heap.size, 0, none⟩ from rfl, World.cell?_alloc_new]
    simp only [List.getElem_cons_zero, List.getElem?_toArray, List.getElem?_cons_zero]
    unfold dgt
    rw [dg_ofNat (Nat.mod_lt _ (by decide))]
    congr 2)
set_option maxRecDepth 100000 in
set_option maxHeartbeats 1600000 in
theorem l1Int (u : Nat) (w : World) (hu : u < 1000000000) (B : Nat) (hB : B ≤ w.heap.size) :
    Calls Tryd.prog 77 #[.int .i64 (u : Int)] w fun e w' => e = .returned (.string (tx (Lib.decDigits u))) ∧ Below B w w' := by
  go_enter Tryd.func77, Tryd.ntmps77
  go_wp2
  go_loopw [0, 3] (fun n s wr => ∃ (m : Nat) (l : List UInt8), n = .int .i64 (m : Int) ∧ m ≤ u ∧ s = .string (tx l) ∧ l1J u m l ∧ Below w.heap.size w wr) (fun n s _ => 2 * (intOf n).toNat + (match s with | .string t => (if t.size = 0 then 1 else 0) | _ => 0))
  case atStart => exact ⟨u, [], rfl, Nat.le_refl _, rfl, .inl ⟨rfl, rfl⟩, Below.refl _ _⟩
  case round =>
    obtain ⟨m, l, rfl, hm, rfl, hj, hb⟩ := hrel
    have HJ := Lib.hid hj
    have hw1 : IntKind.i64.wrap (48 + (m : Int) % 10) = 48 + (m : Int) % 10 := IntWalk.i64_in _ (by omega)
    have hw2 : IntKind.u8.wrap (48 + (m : Int) % 10) = 48 + (m : Int) % 10 := IntWalk.u8_in _ (by omega)
    have hcv := conv_digit wr m
    have hmi : (m : Int) ≤ 999999999 := by omega
    have hz : (tx [dgt m]).size + (tx l).size ≤ 9223372036854775807 := by rw [tx_size, tx_size]; have := l1J_len hu hj; simp; omega
    clear hj
    by_cases hl : l = []
    · subst hl
      have hs0 := tx_empty
      go_wp2
      rw [tx_app]
      refine ⟨⟨m / 10, _, val_i (by omega), by omega, rfl, l1J_step HJ.out (.inl rfl), below_alloc (Nat.le_refl _) hb⟩, ?_⟩
      simp [intOf, tx_size]
      omega
    · have hs0 := tx_filled hl
      have HL := Lib.hid hl
      clear hl
      by_cases hm0 : m = 0
      · have hm1 : ((m : Int) != 0) = false := by simp [hm0]
        have HM := Lib.hid hm0
        clear hm0
        go_wp2
        go_ret
        exact ⟨by rw [l1J_end HJ.out HL.out HM.out]; rfl, hb.mono hB⟩
      · have hm1 : ((m : Int) != 0) = true := by simp [hm0]
        have HM := Lib.hid hm0
        clear hm0
        go_wp2
        rw [tx_app]
        refine ⟨⟨m / 10, _, val_i (by omega), by omega, rfl, l1J_step HJ.out (.inr HM.out), below_alloc (Nat.le_refl _) hb⟩, ?_⟩
        have := HM.out
        simp [intOf, tx_size]
        omega
end Go.Proofs.YtkhkdnmpbfmmeaaDoor
