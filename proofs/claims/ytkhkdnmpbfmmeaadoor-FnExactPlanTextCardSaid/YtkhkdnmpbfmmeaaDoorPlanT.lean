/- PlanText, spec and impl: contracts. -/
import Derived.Test.YtkhkdnmpbfmmeaaDoorTxtL
import Derived.Test.YtkhkdnmpbfmmeaaDoorFn5
namespace Go.Proofs.YtkhkdnmpbfmmeaaDoor
open Go.RowKit

theorem mkT_len {u : Int} (h1 : u < 1000000000) : (mkT u).length ≤ 9 := by
  unfold mkT
  split
  · simp
  · exact dec_len9 (by omega)
def marks (us : List Int) : List ByteArray := us.map fun u => tx (mkT u)
theorem marks_snoc {us : List Int} {k : Nat} (h : k < us.length) : marks (us.take (k + 1)) = marks (us.take k) ++ [tx (mkT (gi us k))] := by
  unfold marks
  rw [take_gi h, List.map_append]
  rfl
theorem marks_short {us : List Int} (hu : ∀ u ∈ us, -1 ≤ u ∧ u < 256) : ∀ i, i < (marks us).length → (gt (marks us) i).size ≤ 1000 := by
  intro i hi
  rw [gt_get hi]
  unfold marks at hi ⊢
  rw [List.length_map] at hi
  rw [List.getElem_map, tx_size]
  have h1 := hu us[i] (List.getElem_mem hi)
  have := mkT_len (show us[i] < 1000000000 by omega)
  omega
/-- the text of a plan -/
def planT (us : List Int) : List UInt8 := if entOk us = true then jn (marks us) [32] else []
theorem planT_yes {us : List Int} (h : entOk us = true) : planT us = jn (marks us) [32] := if_pos h
theorem planT_no {us : List Int} (h : entOk us = false) : planT us = [] := by unfold planT; rw [h]; rfl

set_option maxRecDepth 100000 in
set_option maxHeartbeats 1600000 in
theorem specPlanText (A : Option Addr) (n c : Nat) (us : List Int) (w : World) (B : Nat) (hB : B ≤ w.heap.size) (ha : RI w A n c us) :
    Calls Tryd.prog 17 #[.slice A n c] w fun e w' => e = .returned (.string (tx (planT us))) ∧ Below B w w' := by
  have b1 := ha.cap; have b2 := ha.top
  have HL := Lib.hid ha.len
  by_cases h1 : 256 < n
  · have E := Lib.hid (planT_no (us := us) (decide_eq_false fun h => by have := h.1; rw [HL.out] at this; omega))
    go_enter Tryd.func17, Tryd.ntmps17
    go_wp2
    go_ret
    exact ⟨by rw [E.out]; rfl, Below.refl _ _⟩
  have hn : n ≤ 256 := by omega
  go_enter Tryd.func17, Tryd.ntmps17
  go_wp2
  go_loopw [3, 4] (fun v i wr => ∃ k : Nat, k ≤ n ∧ i = .int .i64 k ∧ (∀ j, j < k → -1 ≤ gi us j ∧ gi us j < 256) ∧ OS wr w.heap.size v (marks (us.take k)) ∧ Below w.heap.size w wr) (fun _ i _ => n - (intOf i).toNat)
  case atStart => exact ⟨0, Nat.zero_le _, rfl, by omega, OS.empty (Nat.le_refl _), by repeat (first | with_reducible assumption | with_reducible exact Below.refl _ _ | with_reducible refine below_drewN ?_ _ | with_reducible refine Below.drew ?_ | with_reducible refine below_alloc (Nat.le_refl _) ?_)⟩
  case round =>
    obtain ⟨k, hk, rfl, hall, ho, hbr⟩ := hrel
    have hsz := hbr.size
    have HA := Lib.hid hall
    clear hall
    by_cases hlt : k < n
    · obtain ⟨b, off, rfl, hc1⟩ := (ha.keep (keeps_below hbr)).at_ hlt
      by_cases h2 : inR (gi us k) (-1) 255 = true
      · have HN := Lib.hid (marks_snoc (us := us) (show k < us.length by rw [HL.out]; exact hlt))
        have H2 := Lib.hid (of_decide_eq_true h2)
        have hll : (marks (us.take k)).length ≤ 4194304 := by unfold marks; rw [List.length_map, List.length_take]; omega
        obtain ⟨Av, cv, rfl⟩ := ho.form
        have hc2 : ∀ q, (wr.drewN q).cell? ⟨b, off + k, none⟩ = some (.int .i64 (gi us k)) := fun q => keepDN hc1
        have ho' : ∀ q w1, Below (wr.drewN q).heap.size (wr.drewN q) w1 → OS w1 w.heap.size (.slice Av (marks (us.take k)).length cv) (marks (us.take k)) := fun q w1 h => OS.below (w := wr.drewN q) ho h
        go_wp2_with (first
          | (go_at_call 53; refine (l13Choice _ _).mono ?_; rintro e w' ⟨rfl, q, rfl⟩)
          | (go_at_call 50; refine (l13Mark _ _ (by have := H2.out; omega) (by have := H2.out; omega) _ (Nat.le_refl _)).mono ?_; rintro e w1 ⟨rfl, hb1⟩)
          | (at_builtin; refine wpList_pushS rfl (.tmp 21) (.tmp 27) rfl w1 w.heap.size (.slice Av (marks (us.take k)).length cv) (marks (us.take k)) rfl (ho' _ _ hb1) _ rfl hll (by have := hb1.size; simp at this; omega) ?_; intro v' w2 ho2 hb2 hc2 hv2))
        have hbw : Below w.heap.size w w2 := (below_then hb1 (by simp; omega) (below_drewN hbr _)).trans hb2
        go_roundw
        case rel => exact ⟨k + 1, by omega, by go_num, all_succ HA.out ⟨H2.out.1, by have := H2.out.2; omega⟩, by rw [HN.out]; exact ho2, hbw⟩
        case measure => simp [intOf]; omega
      · replace h2 : inR (gi us k) (-1) 255 = false := by simpa using h2
        have E := Lib.hid (planT_no (us := us) (decide_eq_false fun h => by
          have h5 := of_decide_eq_false h2
          have h6 := h.2 _ (gi_mem (show k < us.length by rw [HL.out]; exact hlt))
          omega))
        go_wp2_with (go_at_call 53; refine (l13Choice _ _).mono ?_; rintro e w' ⟨rfl, q, rfl⟩)
        go_ret
        exact ⟨by rw [E.out]; rfl, below_drewN (hbr.mono hB) _⟩
    · obtain rfl : k = n := by omega
      rw [List.take_of_length_le (by rw [HL.out]; exact Nat.le_refl _)] at ho
      have hll : (marks us).length ≤ 1000 := by unfold marks; rw [List.length_map, HL.out]; omega
      have HU : ∀ u ∈ us, -1 ≤ u ∧ u < 256 := fun u hu => by
        obtain ⟨i, hi, rfl⟩ := mem_gi hu
        exact HA.out i (by rw [← HL.out]; exact hi)
      have E := Lib.hid (planT_yes (us := us) (decide_eq_true ⟨by rw [HL.out]; exact hn, HU⟩))
      obtain ⟨Av, cv, rfl⟩ := ho.form
      have hr := ho.reads
      have HS := Lib.hid (marks_short HU)
      clear HU
      go_wp2_with (go_at_call 54; refine (l1Words _ _ _ _ [32] _ hr HS.out (by simp) hll).mono ?_; rintro e w1 ⟨rfl, q, rfl⟩)
      go_ret
      exact ⟨by rw [E.out]; rfl, below_drewN (hbr.mono hB) _⟩
set_option maxRecDepth 100000 in
set_option maxHeartbeats 1600000 in
theorem implPlanText (A : Option Addr) (n c : Nat) (us : List Int) (w : World) (B : Nat) (hB : B ≤ w.heap.size) (ht : Tab w) (ha : RI w A n c us) :
    Calls Tryd.prog 19 #[.slice A n c] w fun e w' => e = .returned (.string (tx (planT us))) ∧ Below B w w' := by
  have b1 := ha.cap; have b2 := ha.top
  have HL := Lib.hid ha.len
  cases h0 : entOk us with
  | false =>
    have E := Lib.hid (planT_no h0)
    go_enter Tryd.func19, Tryd.ntmps19
    go_wp2_with (go_at_call 55; refine (areEntries _ _ _ _ _ ha).mono ?_; rintro e w' ⟨rfl, q, rfl⟩; rw [h0])
    go_ret
    exact ⟨by rw [E.out]; rfl, below_drewN (Below.refl _ _) _⟩
  | true =>
    have h1 := of_decide_eq_true h0
    have hn : n ≤ 256 := by have := h1.1; rw [HL.out] at this; exact this
    have HU := Lib.hid h1.2
    have E := Lib.hid (planT_yes h0)
    clear h1
    go_enter Tryd.func19, Tryd.ntmps19
    go_wp2_with (go_at_call 55; refine (areEntries _ _ _ _ _ ha).mono ?_; rintro e w' ⟨rfl, q, rfl⟩; rw [h0])
    go_loopw [3, 12] (fun v i wr => ∃ k : Nat, k ≤ n ∧ i = .int .i64 k ∧ OS wr w.heap.size v (marks (us.take k)) ∧ Below w.heap.size w wr) (fun _ i _ => n - (intOf i).toNat)
    case atStart => exact ⟨0, Nat.zero_le _, rfl, OS.empty (w := w.drewN q) (Nat.le_refl _), below_alloc (Nat.le_refl _) (below_drewN (Below.refl _ _) _)⟩
    case round =>
      obtain ⟨k, hk, rfl, ho, hbr⟩ := hrel
      have hsz := hbr.size
      have hT := ht.below hbr
      by_cases hlt : k < n
      · obtain ⟨b, off, rfl, hc1⟩ := (ha.keep (keeps_below hbr)).at_ hlt
        have HN := Lib.hid (marks_snoc (us := us) (show k < us.length by rw [HL.out]; exact hlt))
        have H2 := Lib.hid (HU.out _ (gi_mem (show k < us.length by rw [HL.out]; exact hlt)))
        have hll : (marks (us.take k)).length ≤ 4194304 := by unfold marks; rw [List.length_map, List.length_take]; omega
        obtain ⟨Av, cv, rfl⟩ := ho.form
        go_wp2_with (first
          | (go_at_call 52; refine (entryText _ _ H2.out.1 (by have := H2.out; omega) _ (Nat.le_refl _) hT).mono ?_; rintro e w1 ⟨rfl, hb1⟩)
          | (at_builtin; refine wpList_pushS rfl (.tmp 16) (.tmp 19) rfl w1 w.heap.size (.slice Av (marks (us.take k)).length cv) (marks (us.take k)) rfl (ho.below hb1) _ rfl hll (by have := hb1.size; omega) ?_; intro v' w2 ho2 hb2 hc2 hv2))
        have hbw : Below w.heap.size w w2 := (below_then hb1 hsz hbr).trans hb2
        go_roundw
        case rel => exact ⟨k + 1, by omega, by go_num, by rw [HN.out]; exact ho2, hbw⟩
        case measure => simp [intOf]; omega
      · obtain rfl : k = n := by omega
        rw [List.take_of_length_le (by rw [HL.out]; exact Nat.le_refl _)] at ho
        have hll : (marks us).length ≤ 1000 := by unfold marks; rw [List.length_map, HL.out]; omega
        obtain ⟨Av, cv, rfl⟩ := ho.form
        have hr := ho.reads
        have HS := Lib.hid (marks_short HU.out)
        go_wp2_with (go_at_call 56; refine (stringsJoin _ _ _ _ [32] _ hr HS.out (by simp) hll).mono ?_; rintro e w1 ⟨rfl, hb1⟩)
        go_ret
        exact ⟨by rw [E.out]; rfl, (below_then hb1 hsz hbr).mono hB⟩
end Go.Proofs.YtkhkdnmpbfmmeaaDoor
