/- Readers of numbers and of players, spec and impl: contracts. -/
import Derived.Test.YtkhkdnmpbfmmeaaDoorTxtP
namespace Go.Proofs.YtkhkdnmpbfmmeaaDoor
open Go.RowKit

theorem at_byte (s : ByteArray) {k : Nat} (h : k < s.size) : s.data.toList[k]? = some (s[k]'h) := by
  rw [Array.getElem?_toList]
  exact Array.getElem?_eq_getElem h
theorem empty_of {s : ByteArray} (h : s.size < 1) : s = { data := #[] } := by
  rw [← tx_of s]
  rw [Lib.size_eq] at h
  rw [List.length_eq_zero_iff.1 (by omega : s.data.toList.length = 0)]
  rfl
theorem filled_of {s : ByteArray} (h : ¬ s.size < 1) : s.toList.isEmpty = false := by
  rw [Lib.toList_data]
  rw [Lib.size_eq] at h
  cases e : s.data.toList with
  | nil => rw [e] at h; simp at h
  | cons x r => rfl
def rdVal (l : List UInt8) : Int := if rdOk l = true then (dgVal l : Int) else 0
theorem rdVal_ok {l : List UInt8} (h : rdOk l = true) : rdVal l = (dgVal l : Int) := if_pos h
theorem rdVal_no {l : List UInt8} (h : rdOk l = false) : rdVal l = 0 := by unfold rdVal; rw [h]; rfl

set_option maxHeartbeats 1600000 in
theorem l1Read (s : ByteArray) (w : World) :
    Calls Tryd.prog 90 #[.string s] w fun e w' => e = .returned (.tuple #[.int .i64 (rdVal s.data.toList), .bool (rdOk s.data.toList)]) ∧ Qt w w' := by
  have hsz : s.data.toList.length = s.size := (Lib.size_eq s).symm
  by_cases h1 : s.size < 1
  · have E := Lib.hid (show rdOk s.data.toList = false from decide_eq_false fun h => by have := h.1; omega)
    clear hsz
    go_enter Tryd.func90, Tryd.ntmps90
    go_wp2
    refine bodyPost_ret (v := .tuple #[.int .i64 0, .bool false]) (by simp [results, Tryd.results90, go_sem]) rfl ?_
    exact ⟨by rw [rdVal_no E.out, E.out], Qt.refl _⟩
  by_cases h2 : 9 < s.size
  · have E := Lib.hid (show rdOk s.data.toList = false from decide_eq_false fun h => by have := h.2.1; omega)
    clear hsz
    go_enter Tryd.func90, Tryd.ntmps90
    go_wp2
    refine bodyPost_ret (v := .tuple #[.int .i64 0, .bool false]) (by simp [results, Tryd.results90, go_sem]) rfl ?_
    exact ⟨by rw [rdVal_no E.out, E.out], Qt.refl _⟩
  have h0 : 0 < s.size := by omega
  have hd0 : s.data.toList.head? = some (s[0]'h0) := by
    rw [List.head?_eq_getElem?]
    exact at_byte s h0
  by_cases h3 : ((s[0]'h0).toNat : Int) = 48 ∧ 1 < s.size
  · have E := Lib.hid (show rdOk s.data.toList = false from decide_eq_false fun h => h.2.2.1 ⟨by rw [hd0]; exact congrArg some (by rw [← UInt8.toNat_inj]; simpa using (by omega : (s[0]'h0).toNat = 48)), by omega⟩)
    have h3a : (((s[0]'h0).toNat : Int) == 48) = true := by simpa using h3.1
    have h3b : (1 : Int) < (s.size : Int) := by omega
    clear hsz h3 hd0
    go_enter Tryd.func90, Tryd.ntmps90
    go_wp2
    refine bodyPost_ret (v := .tuple #[.int .i64 0, .bool false]) (by simp [results, Tryd.results90, go_sem]) rfl ?_
    exact ⟨by rw [rdVal_no E.out, E.out], Qt.refl _⟩
  have H3 := Lib.hid (show ¬ (s.data.toList.head? = some 48 ∧ 1 < s.data.toList.length) from fun h => h3 ⟨by rw [hd0] at h; have := Option.some.inj h.1; rw [this]; rfl, by omega⟩)
  have H1 := Lib.hid (show 0 < s.size ∧ s.size ≤ 9 by omega)
  have hs9 : s.size ≤ 9 := by omega
  have hc : ((((s[0]'h0).toNat : Int) == 48) = true ∧ (s.size : Int) ≤ 1) ∨ ((((s[0]'h0).toNat : Int) == 48) = false ∧ (0 : Int) ≤ (s.size : Int)) := by
    by_cases e : ((s[0]'h0).toNat : Int) = 48
    · exact .inl ⟨by simpa using e, by omega⟩
    · exact .inr ⟨by simpa using e, by omega⟩
  have HZ := Lib.hid hsz
  clear hsz h3 hd0
  rcases hc with ⟨hc1, hc2⟩ | ⟨hc1, hc2⟩
  all_goals
    go_enter Tryd.func90, Tryd.ntmps90
    go_wp2
    go_loop [4, 5] (fun n i => ∃ k : Nat, k ≤ s.size ∧ i = .int .i64 k ∧ n = .int .i64 (dgVal (s.data.toList.take k) : Int) ∧ ∀ b ∈ s.data.toList.take k, isDg b = true) (fun _ i => s.size - (intOf i).toNat)
    case atStart => exact ⟨0, Nat.zero_le _, rfl, rfl, by simp⟩
    case round =>
      obtain ⟨k, hk, rfl, rfl, hall⟩ := hrel
      have HA := Lib.hid hall
      have hlt9 : dgVal (s.data.toList.take k) < 1000000000 := Nat.lt_of_lt_of_le (dgVal_lt k _ (by rw [HZ.out]; exact hk) hall) (Nat.pow_le_pow_right (n := 10) (j := 9) (by decide) (by omega))
      clear hall
      by_cases hlt : k < s.size
      · have hsn : s.data.toList.take (k + 1) = s.data.toList.take k ++ [s[k]'hlt] := by
          rw [take_snoc (by rw [HZ.out]; exact hlt)]
          rfl
        have hb255 : (s[k]'hlt).toNat < 256 := UInt8.toNat_lt _
        by_cases hd : 48 ≤ (s[k]'hlt).toNat ∧ (s[k]'hlt).toNat ≤ 57
        · have hd1 : (48 : Int) ≤ ((s[k]'hlt).toNat : Int) := by omega
          have hd2 : ((s[k]'hlt).toNat : Int) ≤ 57 := by omega
          have HD := Lib.hid hd
          have HS := Lib.hid hsn
          have e1 : IntKind.u8.wrap (((s[k]'hlt).toNat : Int) - 48) = ((s[k]'hlt).toNat : Int) - 48 := IntWalk.u8_in _ (by omega)
          clear hd hsn
          go_wp2
          go_round
          case rel =>
            refine ⟨k + 1, by omega, by go_num, val_i (by rw [HS.out, dgVal_snoc]; have := HD.out; omega), fun b hb => ?_⟩
            rw [HS.out] at hb
            rcases List.mem_append.1 hb with hb | hb
            · exact HA.out b hb
            · rw [List.mem_singleton.1 hb]
              exact decide_eq_true HD.out
          case measure => simp [intOf]; omega
        · have E := Lib.hid (show rdOk s.data.toList = false from decide_eq_false fun h => hd (of_decide_eq_true (h.2.2.2 _ (List.mem_of_getElem? (at_byte s hlt)))))
          have hd' : (((s[k]'hlt).toNat : Int) < 48 ∧ (0 : Int) ≤ (s.size : Int)) ∨ ((48 : Int) ≤ ((s[k]'hlt).toNat : Int) ∧ (57 : Int) < ((s[k]'hlt).toNat : Int)) := by omega
          clear hd hsn
          rcases hd' with ⟨hd1, hd2⟩ | ⟨hd1, hd2⟩
          all_goals
            go_wp2
            refine bodyPost_ret (v := .tuple #[.int .i64 0, .bool false]) (by simp [results, Tryd.results90, go_sem]) rfl ?_
            exact ⟨by rw [rdVal_no E.out, E.out], Qt.refl _⟩
      · obtain rfl : k = s.size := by omega
        have E := Lib.hid (show rdOk s.data.toList = true from decide_eq_true ⟨by rw [HZ.out]; exact H1.out.1, by rw [HZ.out]; exact H1.out.2, H3.out, fun b hb => HA.out b (by rw [List.take_of_length_le (by rw [HZ.out]; exact Nat.le_refl _)]; exact hb)⟩)
        go_wp2
        refine bodyPost_ret (v := .tuple #[.int .i64 (dgVal (s.data.toList.take s.size) : Int), .bool true]) (by simp [results, Tryd.results90, go_sem]) rfl ?_
        exact ⟨by rw [rdVal_ok E.out, E.out, List.take_of_length_le (by rw [HZ.out]; exact Nat.le_refl _)], Qt.refl _⟩

set_option maxHeartbeats 1600000 in
theorem readNumber (s : ByteArray) (n : Int) (w : World) :
    Calls Tryd.prog 64 #[.string s, .int .i64 n] w fun e w' => e = .returned (.tuple #[.int .i64 (rdVal s.data.toList), .bool (rdOk s.data.toList && decide (rdVal s.data.toList < n))]) ∧ Qt w w' := by
  have hsz : s.data.toList.length = s.size := (Lib.size_eq s).symm
  by_cases h1 : s.size < 1
  · have E := Lib.hid (show rdOk s.data.toList = false from decide_eq_false fun h => by have := h.1; omega)
    have hs0 : s.toList.isEmpty = true := by rw [empty_of h1, Lib.toList_data]; rfl
    clear hsz h1
    go_enter Tryd.func64, Tryd.ntmps64
    go_wp2
    refine bodyPost_ret (v := .tuple #[.int .i64 0, .bool false]) (by simp [results, Tryd.results64, go_sem]) rfl ?_
    exact ⟨by rw [rdVal_no E.out, E.out]; rfl, Qt.refl _⟩
  have hs0 : s.toList.isEmpty = false := filled_of h1
  by_cases h2 : 9 < s.size
  · have E := Lib.hid (show rdOk s.data.toList = false from decide_eq_false fun h => by have := h.2.1; omega)
    clear hsz
    go_enter Tryd.func64, Tryd.ntmps64
    go_wp2
    refine bodyPost_ret (v := .tuple #[.int .i64 0, .bool false]) (by simp [results, Tryd.results64, go_sem]) rfl ?_
    exact ⟨by rw [rdVal_no E.out, E.out]; rfl, Qt.refl _⟩
  have h0 : 0 < s.size := by omega
  have hd0 : s.data.toList.head? = some (s[0]'h0) := by
    rw [List.head?_eq_getElem?]
    exact at_byte s h0
  by_cases h3 : ((s[0]'h0).toNat : Int) = 48 ∧ 1 < s.size
  · have E := Lib.hid (show rdOk s.data.toList = false from decide_eq_false fun h => h.2.2.1 ⟨by rw [hd0]; exact congrArg some (by rw [← UInt8.toNat_inj]; simpa using (by omega : (s[0]'h0).toNat = 48)), by omega⟩)
    have h3a : (((s[0]'h0).toNat : Int) == 48) = true := by simpa using h3.1
    have h3b : (1 : Int) < (s.size : Int) := by omega
    clear hsz h3 hd0
    go_enter Tryd.func64, Tryd.ntmps64
    go_wp2
    refine bodyPost_ret (v := .tuple #[.int .i64 0, .bool false]) (by simp [results, Tryd.results64, go_sem]) rfl ?_
    exact ⟨by rw [rdVal_no E.out, E.out]; rfl, Qt.refl _⟩
  have H3 := Lib.hid (show ¬ (s.data.toList.head? = some 48 ∧ 1 < s.data.toList.length) from fun h => h3 ⟨by rw [hd0] at h; have := Option.some.inj h.1; rw [this]; rfl, by omega⟩)
  have H1 := Lib.hid (show 0 < s.size ∧ s.size ≤ 9 by omega)
  have hs9 : s.size ≤ 9 := by omega
  have hc : ((((s[0]'h0).toNat : Int) == 48) = true ∧ (s.size : Int) ≤ 1) ∨ ((((s[0]'h0).toNat : Int) == 48) = false ∧ (0 : Int) ≤ (s.size : Int)) := by
    by_cases e : ((s[0]'h0).toNat : Int) = 48
    · exact .inl ⟨by simpa using e, by omega⟩
    · exact .inr ⟨by simpa using e, by omega⟩
  have HZ := Lib.hid hsz
  clear hsz h3 hd0
  rcases hc with ⟨hc1, hc2⟩ | ⟨hc1, hc2⟩
  all_goals
    go_enter Tryd.func64, Tryd.ntmps64
    go_wp2
    go_loop [6, 7] (fun n i => ∃ k : Nat, k ≤ s.size ∧ i = .int .i64 k ∧ n = .int .i64 (dgVal (s.data.toList.take k) : Int) ∧ ∀ b ∈ s.data.toList.take k, isDg b = true) (fun _ i => s.size - (intOf i).toNat)
    case atStart => exact ⟨0, Nat.zero_le _, rfl, rfl, by simp⟩
    case round =>
      obtain ⟨k, hk, rfl, rfl, hall⟩ := hrel
      have HA := Lib.hid hall
      have hlt9 : dgVal (s.data.toList.take k) < 1000000000 := Nat.lt_of_lt_of_le (dgVal_lt k _ (by rw [HZ.out]; exact hk) hall) (Nat.pow_le_pow_right (n := 10) (j := 9) (by decide) (by omega))
      clear hall
      by_cases hlt : k < s.size
      · have hsn : s.data.toList.take (k + 1) = s.data.toList.take k ++ [s[k]'hlt] := by
          rw [take_snoc (by rw [HZ.out]; exact hlt)]
          rfl
        have hb255 : (s[k]'hlt).toNat < 256 := UInt8.toNat_lt _
        by_cases hd : 48 ≤ (s[k]'hlt).toNat ∧ (s[k]'hlt).toNat ≤ 57
        · have hd1 : (48 : Int) ≤ ((s[k]'hlt).toNat : Int) := by omega
          have hd2 : ((s[k]'hlt).toNat : Int) ≤ 57 := by omega
          have HD := Lib.hid hd
          have HS := Lib.hid hsn
          have e1 : IntKind.u8.wrap (((s[k]'hlt).toNat : Int) - 48) = ((s[k]'hlt).toNat : Int) - 48 := IntWalk.u8_in _ (by omega)
          clear hd hsn
          go_wp2
          go_round
          case rel =>
            refine ⟨k + 1, by omega, by go_num, val_i (by rw [HS.out, dgVal_snoc]; have := HD.out; omega), fun b hb => ?_⟩
            rw [HS.out] at hb
            rcases List.mem_append.1 hb with hb | hb
            · exact HA.out b hb
            · rw [List.mem_singleton.1 hb]
              exact decide_eq_true HD.out
          case measure => simp [intOf]; omega
        · have E := Lib.hid (show rdOk s.data.toList = false from decide_eq_false fun h => hd (of_decide_eq_true (h.2.2.2 _ (List.mem_of_getElem? (at_byte s hlt)))))
          have hd' : (((s[k]'hlt).toNat : Int) < 48 ∧ (0 : Int) ≤ (s.size : Int)) ∨ ((48 : Int) ≤ ((s[k]'hlt).toNat : Int) ∧ (57 : Int) < ((s[k]'hlt).toNat : Int)) := by omega
          clear hd hsn
          rcases hd' with ⟨hd1, hd2⟩ | ⟨hd1, hd2⟩
          all_goals
            go_wp2
            refine bodyPost_ret (v := .tuple #[.int .i64 0, .bool false]) (by simp [results, Tryd.results64, go_sem]) rfl ?_
            exact ⟨by rw [rdVal_no E.out, E.out]; rfl, Qt.refl _⟩
      · obtain rfl : k = s.size := by omega
        have E := Lib.hid (show rdOk s.data.toList = true from decide_eq_true ⟨by rw [HZ.out]; exact H1.out.1, by rw [HZ.out]; exact H1.out.2, H3.out, fun b hb => HA.out b (by rw [List.take_of_length_le (by rw [HZ.out]; exact Nat.le_refl _)]; exact hb)⟩)
        go_wp2
        refine bodyPost_ret (v := .tuple #[.int .i64 (dgVal (s.data.toList.take s.size) : Int), .bool (decide ((dgVal (s.data.toList.take s.size) : Int) < n))]) (by simp [results, Tryd.results64, go_sem]) rfl ?_
        exact ⟨by rw [rdVal_ok E.out, E.out, List.take_of_length_le (by rw [HZ.out]; exact Nat.le_refl _)]; rfl, Qt.refl _⟩
def evB : List UInt8 := [101, 118, 101, 110]
def odB : List UInt8 := [111, 100, 100]
/-- the player of a word; -1: none -/
def plr (l : List UInt8) : Int := if l = evB then 0 else if l = odB then 1 else -1
/-- the word of a player -/
def wo (o : Int) : List UInt8 := if o = 0 then evB else odB

theorem l13Number (s : ByteArray) (n : Int) (w : World) :
    Calls Tryd.prog 62 #[.string s, .int .i64 n] w fun e w' => e = .returned (.int .i64 (rdNum s.data.toList n)) ∧ Qt w w' := by
  by_cases h : rdOk s.data.toList = true
  · have E := Lib.hid (rdVal_ok h)
    have hv := rdOk_lt h
    by_cases h1 : rdVal s.data.toList ≤ n
    · have E2 := Lib.hid (show rdNum s.data.toList n = rdVal s.data.toList by unfold rdNum; rw [E.out] at h1 ⊢; rw [if_pos ⟨h, h1⟩])
      have h0 : 0 ≤ rdVal s.data.toList := by rw [E.out]; omega
      clear hv
      go_enter Tryd.func62, Tryd.ntmps62
      go_wp2_with (go_at_call 90; refine (l1Read _ _).mono ?_; rintro e w' ⟨rfl, q, rfl⟩; rw [h])
      go_ret
      exact ⟨ret_i E2.out.symm, q, rfl⟩
    · have E2 := Lib.hid (show rdNum s.data.toList n = -1 by unfold rdNum; rw [E.out] at h1; rw [if_neg (fun e => h1 e.2)])
      have h0 : 0 ≤ rdVal s.data.toList := by rw [E.out]; omega
      have h1' : n < rdVal s.data.toList := by omega
      clear hv h1
      go_enter Tryd.func62, Tryd.ntmps62
      go_wp2_with (go_at_call 90; refine (l1Read _ _).mono ?_; rintro e w' ⟨rfl, q, rfl⟩; rw [h])
      go_ret
      exact ⟨ret_i E2.out.symm, q, rfl⟩
  · replace h : rdOk s.data.toList = false := by simpa using h
    have E2 := Lib.hid (show rdNum s.data.toList n = -1 by unfold rdNum; rw [h, if_neg (fun e => by cases e.1)])
    go_enter Tryd.func62, Tryd.ntmps62
    go_wp2_with (go_at_call 90; refine (l1Read _ _).mono ?_; rintro e w' ⟨rfl, q, rfl⟩; rw [h])
    go_ret
    exact ⟨ret_i E2.out.symm, q, rfl⟩

theorem l13Who (o : Int) (w : World) :
    Calls Tryd.prog 49 #[.int .i64 o] w fun e w' => e = .returned (.string (tx (wo o))) ∧ Qt w w' := by
  by_cases h : o = 0
  · have E := Lib.hid (show wo o = evB from if_pos h)
    have h' : (o == 0) = true := by simp [h]
    clear h
    go_enter Tryd.func49, Tryd.ntmps49
    go_wp2
    go_ret
    exact ⟨by rw [E.out]; rfl, Qt.refl _⟩
  · have E := Lib.hid (show wo o = odB from if_neg h)
    have h' : (o == 0) = false := by simp [h]
    clear h
    go_enter Tryd.func49, Tryd.ntmps49
    go_wp2
    go_ret
    exact ⟨by rw [E.out]; rfl, Qt.refl _⟩

theorem plr_0 {s : ByteArray} (h : (s.toList == [101, 118, 101, 110]) = true) : plr s.data.toList = 0 := by
  rw [Lib.toList_data] at h
  unfold plr evB odB
  rw [if_pos (by simpa using h)]
theorem plr_1 {s : ByteArray} (h : (s.toList == [101, 118, 101, 110]) = false) (h1 : (s.toList == [111, 100, 100]) = true) : plr s.data.toList = 1 := by
  rw [Lib.toList_data] at h h1
  unfold plr evB odB
  rw [if_neg (by simpa using h), if_pos (by simpa using h1)]
theorem plr_2 {s : ByteArray} (h : (s.toList == [101, 118, 101, 110]) = false) (h1 : (s.toList == [111, 100, 100]) = false) : plr s.data.toList = -1 := by
  rw [Lib.toList_data] at h h1
  unfold plr evB odB
  rw [if_neg (by simpa using h), if_neg (by simpa using h1)]

theorem l13Player (s : ByteArray) (w : World) :
    Calls Tryd.prog 63 #[.string s] w fun e w' => e = .returned (.int .i64 (plr s.data.toList)) ∧ Qt w w' := by
  go_enter Tryd.func63, Tryd.ntmps63
  go_wp2
  all_goals
    go_ret
    exact ⟨ret_i (by first | rw [plr_0 (by assumption)] | rw [plr_1 (by assumption) (by assumption)] | rw [plr_2 (by assumption) (by assumption)]), Qt.refl _⟩

/-- the names of the players stand where start-up laid them -/
def PN (w : World) : Prop := w.cell? ⟨0, 0, none⟩ = some (.string { data := #[101, 118, 101, 110] }) ∧ w.cell? ⟨0, 1, none⟩ = some (.string { data := #[111, 100, 100] })
theorem PN.keep {w w' : World} (h : PN w) (k : Keeps w w') : PN w' := ⟨k _ _ h.1, k _ _ h.2⟩

@[go_sem] theorem index_name0 (a b : ByteArray) (w : World) : (Instr.index 72 (.agg #[.string a, .string b]) (.int .i64 0)).run Tryd.prog w = .ok (.string a) w := by kernel_rfl
@[go_sem] theorem index_name1 (a b : ByteArray) (w : World) : (Instr.index 72 (.agg #[.string a, .string b]) (.int .i64 1)).run Tryd.prog w = .ok (.string b) w := by kernel_rfl
set_option maxRecDepth 100000 in
set_option maxHeartbeats 1600000 in
theorem playerOf (s : ByteArray) (w : World) (hp : PN w) :
    Calls Tryd.prog 65 #[.string s] w fun e w' => e = .returned (.int .i64 (plr s.data.toList)) ∧ Qt w w' := by
  obtain ⟨p0, p1⟩ := hp
  go_enter Tryd.func65, Tryd.ntmps65
  go_wp2
  go_loop [6] (fun i => i = .int .i64 0 ∨ (i = .int .i64 1 ∧ (s.toList == [101, 118, 101, 110]) = false) ∨ (i = .int .i64 2 ∧ (s.toList == [101, 118, 101, 110]) = false ∧ (s.toList == [111, 100, 100]) = false)) (fun i => 2 - (intOf i).toNat)
  case atStart => exact .inl rfl
  case round =>
    rcases hrel with rfl | ⟨rfl, h0⟩ | ⟨rfl, h0, h1⟩
    · cases e : (s.toList == [101, 118, 101, 110]) with
      | true =>
        go_wp2
        go_ret
        exact ⟨ret_i (plr_0 e).symm, Qt.refl _⟩
      | false =>
        go_wp2
        go_round
        case rel => exact .inr (.inl ⟨rfl, by first | exact e | trivial⟩)
        case measure => decide
    · cases e : (s.toList == [111, 100, 100]) with
      | true =>
        go_wp2
        go_ret
        exact ⟨ret_i (plr_1 h0 e).symm, Qt.refl _⟩
      | false =>
        go_wp2
        go_round
        case rel => exact .inr (.inr ⟨rfl, h0, by first | exact e | trivial⟩)
        case measure => decide
    · go_wp2
      go_ret
      exact ⟨ret_i (plr_2 h0 h1).symm, Qt.refl _⟩

end Go.Proofs.YtkhkdnmpbfmmeaaDoor
