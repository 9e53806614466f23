/- spec.l1Split: contract. -/
import Derived.Test.YtkhkdnmpbfmmeaaDoorTxtJ
namespace Go.Proofs.YtkhkdnmpbfmmeaaDoor
open Go.RowKit

/-- what spec.l1Split has when it looks at place k: the pieces so far, the place behind the last cut -/
def SpI (c : UInt8) (l : List UInt8) (D : List (List UInt8)) (f k : Nat) : Prop :=
  D.length ≤ k ∧ ((k ≤ l.length ∧ f ≤ k ∧ D ++ spl c (l.drop f) = spl c l ∧ c ∉ (l.drop f).take (k - f)) ∨ (k = l.length + 1 ∧ D = spl c l))
theorem SpI.go {c : UInt8} {l : List UInt8} {D : List (List UInt8)} {f k : Nat} (h : SpI c l D f k) (hk : k < l.length) (hne : l[k] ≠ c) : SpI c l D f (k + 1) := by
  obtain ⟨h0, ⟨h1, h2, h3, h4⟩ | ⟨h1, _⟩⟩ := h
  · refine ⟨by omega, .inl ⟨hk, by omega, h3, ?_⟩⟩
    rw [show k + 1 - f = (k - f) + 1 by omega, List.take_succ_eq_append_getElem (by rw [List.length_drop]; omega)]
    intro hm
    rcases List.mem_append.1 hm with hm | hm
    · exact h4 hm
    · rw [List.mem_singleton] at hm
      rw [List.getElem_drop] at hm
      exact hne (by rw [hm]; congr 1; omega)
  · omega
theorem SpI.cut {c : UInt8} {l : List UInt8} {D : List (List UInt8)} {f k : Nat} (h : SpI c l D f k) (hk : k < l.length) (he : l[k] = c) : SpI c l (D ++ [(l.drop f).take (k - f)]) (k + 1) (k + 1) := by
  obtain ⟨h0, ⟨h1, h2, h3, h4⟩ | ⟨h1, _⟩⟩ := h
  · refine ⟨by rw [List.length_append]; simp; omega, .inl ⟨hk, Nat.le_refl _, ?_, by simp⟩⟩
    rw [← h3, List.append_assoc]
    congr 1
    have e1 : l.drop f = (l.drop f).take (k - f) ++ c :: l.drop (k + 1) := by
      have e2 := (List.take_append_drop (k - f) (l.drop f)).symm
      rw [List.drop_drop, show f + (k - f) = k by omega, List.drop_eq_getElem_cons hk, he] at e2
      exact e2
    conv => rhs; rw [e1]
    rw [spl_hit c _ _ h4]
    rfl
  · omega
theorem SpI.last {c : UInt8} {l : List UInt8} {D : List (List UInt8)} {f : Nat} (h : SpI c l D f l.length) : SpI c l (D ++ [(l.drop f).take (l.length - f)]) (l.length + 1) (l.length + 1) := by
  obtain ⟨h0, ⟨h1, h2, h3, h4⟩ | ⟨h1, _⟩⟩ := h
  · refine ⟨by rw [List.length_append]; simp; omega, .inr ⟨rfl, ?_⟩⟩
    rw [List.take_of_length_le (by rw [List.length_drop]; exact Nat.le_refl _)] at h4 ⊢
    rw [spl_none c _ h4] at h3
    exact h3
  · omega
theorem SpI.end_ {c : UInt8} {l : List UInt8} {D : List (List UInt8)} {f k : Nat} (h : SpI c l D f k) (hk : l.length < k) : D = spl c l := by
  obtain ⟨h0, ⟨h1, _⟩ | ⟨_, h⟩⟩ := h
  · omega
  · exact h
theorem SpI.le {c : UInt8} {l : List UInt8} {D : List (List UInt8)} {f k : Nat} (h : SpI c l D f k) (hk : k ≤ l.length) : f ≤ k ∧ D.length ≤ k := by
  obtain ⟨h0, ⟨_, h1, _⟩ | ⟨h1, _⟩⟩ := h
  · exact ⟨h1, h0⟩
  · omega

set_option maxRecDepth 100000 in
set_option maxHeartbeats 1600000 in
theorem l1Split (s : ByteArray) (c : UInt8) (cv : Int) (hcv : (c.toNat : Int) = cv) (w : World) (B : Nat) (hB : B ≤ w.heap.size) (hs : s.size ≤ 4000000) :
    Calls Tryd.prog 57 #[.string s, .int .u8 cv] w fun e w' => ∃ v, e = .returned v ∧ OS w' B v (splT c s) ∧ Below B w w' := by
  have HZ := Lib.hid (Lib.size_eq s)
  have HC := Lib.hid hcv
  clear hcv
  go_enter Tryd.func57, Tryd.ntmps57
  go_wp2
  go_loopw [5, 6, 7] (fun v fr i wr => ∃ (k f : Nat) (D : List (List UInt8)), k ≤ s.size + 1 ∧ i = .int .i64 k ∧ fr = .int .i64 f ∧ SpI c s.data.toList D f k ∧ OS wr w.heap.size v (D.map tx) ∧ Below w.heap.size w wr) (fun _ _ i _ => s.size + 1 - (intOf i).toNat)
  case atStart => exact ⟨0, 0, [], by omega, rfl, rfl, ⟨by simp, .inl ⟨by omega, by omega, rfl, by simp⟩⟩, OS.empty (Nat.le_refl _), by repeat (first | with_reducible assumption | with_reducible exact Below.refl _ _ | with_reducible refine below_drewN ?_ _ | with_reducible refine Below.drew ?_ | with_reducible refine below_alloc (Nat.le_refl _) ?_)⟩
  case round =>
    obtain ⟨k, f, D, hk, rfl, rfl, hI, ho, hbr⟩ := hrel
    have hsz := hbr.size
    have HI := Lib.hid hI
    obtain ⟨Av, cv', rfl⟩ := ho.form
    by_cases hlt : k ≤ s.size
    · have hle := hI.le (by rw [← HZ.out]; exact hlt)
      obtain ⟨hf, hD⟩ := hle
      have hll : (D.map tx).length ≤ 4194304 := by rw [List.length_map]; omega
      have EX := Lib.hid (tx_ext s f k)
      clear hI
      by_cases hl : k = s.size
      · have hl1 : ((k : Int) == (s.size : Int)) = true := by simp [hl]
        have HL := Lib.hid hl
        clear hl
        have hlt' : (k : Int) ≤ (s.size : Int) := by omega
        have hff : (f : Int) ≤ (k : Int) := by omega
        go_wp2_with ((at_builtin; refine wpList_pushS rfl (.tmp 26) (.tmp 31) rfl wr w.heap.size (.slice Av (D.map tx).length cv') (D.map tx) rfl ho _ rfl hll hsz ?_; intro v' w2 ho2 hb2 hc2 hv2))
        go_roundw
        case rel =>
          have e2 : SpI c s.data.toList (D ++ [(s.data.toList.drop f).take (k - f)]) (k + 1) (k + 1) := by
            have e := HI.out
            rw [HL.out.trans HZ.out] at e ⊢
            exact e.last
          refine ⟨k + 1, k + 1, D ++ [(s.data.toList.drop f).take (k - f)], by omega, by go_num, by go_num, e2, ?_, hbr.trans hb2⟩
          rw [List.map_append]
          show OS w2 w.heap.size v' (D.map tx ++ [tx ((s.data.toList.drop f).take (k - f))])
          rw [← EX.out]
          exact ho2
        case measure => simp [intOf]; omega
      · have hlk : k < s.size := by omega
        have hl1 : ((k : Int) == (s.size : Int)) = false := by simp; omega
        have hll' : k < s.data.toList.length := by rw [← HZ.out]; exact hlk
        have hlt' : (k : Int) ≤ (s.size : Int) := by omega
        have hff : (f : Int) ≤ (k : Int) := by omega
        have hab : s.data.toList[k]'hll' = s[k]'hlk := rfl
        by_cases hc : ((s[k]'hlk).toNat : Int) = cv
        · have HE := Lib.hid (show s.data.toList[k]'hll' = c by rw [hab, ← UInt8.toNat_inj]; have := HC.out; omega)
          have hc1 : (((s[k]'hlk).toNat : Int) == cv) = true := by simp [hc]
          clear hl hc hab
          go_wp2_with ((at_builtin; refine wpList_pushS rfl (.tmp 26) (.tmp 31) rfl wr w.heap.size (.slice Av (D.map tx).length cv') (D.map tx) rfl ho _ rfl hll hsz ?_; intro v' w2 ho2 hb2 hc2 hv2))
          go_roundw
          case rel =>
            refine ⟨k + 1, k + 1, D ++ [(s.data.toList.drop f).take (k - f)], by omega, by go_num, by go_num, HI.out.cut _ HE.out, ?_, hbr.trans hb2⟩
            rw [List.map_append]
            show OS w2 w.heap.size v' (D.map tx ++ [tx ((s.data.toList.drop f).take (k - f))])
            rw [← EX.out]
            exact ho2
          case measure => simp [intOf]; omega
        · have HE := Lib.hid (show s.data.toList[k]'hll' ≠ c from fun e => hc (by rw [← HC.out, ← e, hab]))
          have hc1 : (((s[k]'hlk).toNat : Int) == cv) = false := by simp [hc]
          clear hl hc hab
          go_wp2
          go_roundw
          case rel => exact ⟨k + 1, f, D, by omega, by go_num, rfl, HI.out.go _ HE.out, ho, hbr⟩
          case measure => simp [intOf]; omega
    · have E := Lib.hid (hI.end_ (by rw [← HZ.out]; omega))
      go_wp2
      go_ret
      refine ⟨_, rfl, ?_, hbr.mono hB⟩
      unfold splT
      rw [← E.out]
      exact ho.more hB
end Go.Proofs.YtkhkdnmpbfmmeaaDoor
