/- PairsOn, spec and impl. -/
import Derived.Test.YtiojggephmacpaaPairs5
import Derived.Deep.RegionHeld3
import Derived.Deep.RegionLaw
namespace Go.Proofs.Ytiojggephmacpaa
open Go.RowKit

def pairOn (keep : List Int) (p : PairD) : PairD := (renL p.1 keep, renL p.2 keep)
def pairsOnUp (ps : List PairD) (keep : List Int) (k : Nat) : List PairD := (ps.take k).map (pairOn keep)
noncomputable def pairsOnR (ps : List PairD) (keep : List Int) : List PairD := if okPM ps keep = true then ps.map (pairOn keep) else []
theorem take_gp {ps : List PairD} {k : Nat} (h : k < ps.length) : ps.take (k + 1) = ps.take k ++ [gp ps k] := by
  rw [gp_get h, List.take_succ_eq_append_getElem h]
theorem pairsOn_succ {ps : List PairD} {keep : List Int} {k : Nat} (h : k < ps.length) : pairsOnUp ps keep (k + 1) = pairsOnUp ps keep k ++ [(renL (gp ps k).1 keep, renL (gp ps k).2 keep)] := by
  unfold pairsOnUp
  rw [take_gp h, List.map_append]
  rfl
theorem pairsOnR_tot (ps : List PairD) (keep : List Int) : totP (pairsOnR ps keep) ≤ 1048576 := by
  unfold pairsOnR
  split
  · rename_i h
    unfold okPM at h
    rw [Bool.and_eq_true] at h
    have h1 := (finePs_of h.1 (by omega) (by omega)).1
    have h2 := set_len h.2 (by omega)
    have key : ∀ qs : List PairD, ((qs.map (pairOn keep)).map szP).sum ≤ qs.length * (2 * keep.length) := by
      intro qs
      induction qs with
      | nil => simp
      | cons q r ih =>
        simp only [List.map_cons, List.sum_cons, List.length_cons]
        have a1 := ren_len q.1 keep keep.length
        have a2 := ren_len q.2 keep keep.length
        rw [Nat.succ_mul]
        unfold szP pairOn renL at *
        simp only at *
        omega
    have := key ps
    unfold totP
    have h4 : ps.length * (2 * keep.length) ≤ 4 * (2 * keep.length) := Nat.mul_le_mul_right _ h1
    omega
  · simp [totP]

theorem Box.d0P {w : World} {b : Nat} {t : TypeId} {x0 x1 : Value} (h : Box w b t #[x0, x1]) : w.cell? ⟨b, 0, none⟩ = some x0 := h.cell 0
theorem Box.d1P {w : World} {b : Nat} {t : TypeId} {x0 x1 : Value} (h : Box w b t #[x0, x1]) : w.cell? ⟨b, 1, none⟩ = some x1 := h.cell 1

set_option maxRecDepth 100000 in
set_option maxHeartbeats 1600000 in
theorem implPairsOn (A C : Option Addr) (n c m d : Nat) (ps : List PairD) (keep : List Int) (w : World) (B : Nat) (hB : B ≤ w.heap.size) (ha : RPS w A n c ps) (hb : RI w C m d keep) :
    Calls Try.prog 40 #[.slice A n c, .slice C m d] w fun e w' => ∃ v, e = .returned v ∧ OPS w' B v (pairsOnR ps keep) ∧ Below B w w' := by
  have b1 := ha.cap; have b2 := ha.top; have b3 := hb.cap; have b4 := hb.top
  have L1 := ha.len; have L2 := hb.len
  have HL1 := Lib.hid L1; have HL2 := Lib.hid L2
  clear L1 L2
  have hba := Below.refl w.heap.size w
  by_cases h1 : pairsB ps 256 = true
  · by_cases h2 : setB keep 256 = true
    · have HO := Lib.hid (show okPM ps keep = true by unfold okPM; rw [h1, h2]; rfl)
      have hf := finePs_of h1 (by omega) (by omega)
      have hn : n ≤ 4 := by have := hf.1; rw [HL1.out] at this; omega
      have hm : m ≤ 1048576 := by have := set_len h2 (by omega); rw [HL2.out] at this; omega
      clear hf
      have E := Lib.hid (show pairsOnR ps keep = ps.map (pairOn keep) from if_pos HO.out)
      go_enter Try.func40, Try.ntmps40
      go_wp2_with fail
      refine (arePairs _ _ _ _ _ _ _ (Nat.le_refl _) ha).mono ?_; rintro e w1 ⟨rfl, hb1⟩
      go_wp2_with fail
      refine (isSet _ _ _ _ _ _ (hb.keep (keeps_below hb1))).mono ?_; rintro e w2 ⟨rfl, hq2⟩
      have hb2 := below_qt hq2 hb1
      go_wp2
      go_loopw [5, 19] (fun v i wr => ∃ (k : Nat) (L : List PairD), k ≤ n ∧ i = .int .i64 k ∧ L = pairsOnUp ps keep k ∧ OPS wr w.heap.size v L ∧ Below w.heap.size w wr) (fun _ i _ => n - (intOf i).toNat)
      case atStart => exact ⟨0, [], Nat.zero_le _, rfl, rfl, (OPS.empty (Nat.le_refl _)).more hb2.size, below_alloc (Nat.le_refl _) hb2⟩
      case round =>
        obtain ⟨k, L, hk, rfl, hLk, ho, hbr⟩ := hrel
        have HLk := Lib.hid hLk
        have hlen : L.length ≤ 1048576 := by rw [hLk]; unfold pairsOnUp; rw [List.length_map, List.length_take]; omega
        clear hLk
        obtain ⟨Av, cv, rfl⟩ := ho.form
        have hsz := hbr.size
        by_cases hlt : k < n
        · obtain ⟨bb, off, A1, n1, c1, A2, n2, c2, rfl, hc1, hc2, r1, r2⟩ := (ha.keep (keeps_below hbr)).at_ hlt
          have hb' := hb.keep (keeps_below hbr)
          have hX := Lib.hid (pairsOn_succ (ps := ps) (keep := keep) (k := k) (by rw [HL1.out]; exact hlt))
          have hwL : Below wr.heap.size wr (wr.alloc (.cells #[.slice A1 n1 c1, .slice A2 n2 c2] 101)) := below_alloc (Nat.le_refl _) (Below.refl _ _)
          have bx := Box.new wr 101 #[.slice A1 n1 c1, .slice A2 n2 c2]
          have q0 := bx.d0P; have q1 := bx.d1P
          go_wp2_with fail
          generalize (wr.alloc (.cells #[.slice A1 n1 c1, .slice A2 n2 c2] 101)) = W at *
          go_region_law (first
            | (have tok := hob
               clear tok
               refine step_of_list (by rfl) (wp_pushP (.tmp 23) (.tmp 33) (by rfl) wr _ w.heap.size _ L _ _ (renL (gp ps k).1 keep) (renL (gp ps k).2 keep) (by rfl) (by rfl) hsz ho hwL hoa hob hap hlen ?_)
               intro v3 w3 ho3 hb3 hch3
               have hw3 := (hwL.mono hsz).trans hb3)
            | (have tok := hoa
               clear tok
               go_simp
               go_at_call 94
               refine (placesIn A2 _ n2 c2 _ _ (gp ps k).2 keep _ _ (Nat.le_refl _) (r2.keep (keeps_below (by repeat (first | with_reducible exact hwL | with_reducible refine Below.drew ?_ | with_reducible refine below_alloc (Nat.le_refl _) ?_)))) (hb'.keep (keeps_below (by repeat (first | with_reducible exact hwL | with_reducible refine Below.drew ?_ | with_reducible refine below_alloc (Nat.le_refl _) ?_)))) hm).mono ?_
               rintro e wb ⟨vb, rfl, hob, hbb2⟩
               obtain ⟨Ab, cb, rfl⟩ := hob.form
               have hap := apart_lt hoa hob (Nat.le_refl _)
               replace hoa := hoa.below hbb2
               replace hob := hob.more (lo' := wr.heap.size) hwL.size
               replace hwL := below_then hbb2 hwL.size hwL
               replace bx := (bx).below hbb2 bx.lt
               have q0 := bx.d0P
               have q1 := bx.d1P)
            | (go_simp
               go_at_call 94
               refine (placesIn A1 _ n1 c1 _ _ (gp ps k).1 keep _ _ (Nat.le_refl _) (r1.keep (keeps_below (by repeat (first | with_reducible exact hwL | with_reducible refine Below.drew ?_ | with_reducible refine below_alloc (Nat.le_refl _) ?_)))) (hb'.keep (keeps_below (by repeat (first | with_reducible exact hwL | with_reducible refine Below.drew ?_ | with_reducible refine below_alloc (Nat.le_refl _) ?_)))) hm).mono ?_
               rintro e wa ⟨va, rfl, hoa, hba2⟩
               obtain ⟨Aa, ca, rfl⟩ := hoa.form
               replace hba2 := below_undrew hba2
               have hswL := hwL.size
               replace hoa := hoa.more (lo' := wr.heap.size) hswL
               replace hwL := below_then hba2 hswL hwL
               replace bx := (bx).below hba2 bx.lt
               have q0 := bx.d0P
               have q1 := bx.d1P))
          all_goals
            go_wp2
            go_roundw
            case rel => exact ⟨k + 1, _, by omega, by go_num, by rw [hX.out, ← HLk.out], ho3, hbr.trans hw3⟩
            case measure => simp [intOf]; omega
        · obtain rfl : k = n := by omega
          have HE := Lib.hid (show L = ps.map (pairOn keep) by rw [HLk.out]; unfold pairsOnUp; rw [List.take_of_length_le (by rw [HL1.out]; omega)])
          go_wp2
          go_ret
          exact ⟨_, rfl, by rw [E.out, ← HE.out]; exact ho.more hB, hbr.mono hB⟩
    · replace h2 : setB keep 256 = false := by simpa using h2
      have HO := Lib.hid (show okPM ps keep = false by unfold okPM; rw [h2]; simp)
      have E := Lib.hid (show pairsOnR ps keep = [] from if_neg (by rw [HO.out]; simp))
      go_enter Try.func40, Try.ntmps40
      go_wp2_with fail
      refine (arePairs _ _ _ _ _ _ _ (Nat.le_refl _) ha).mono ?_; rintro e w1 ⟨rfl, hb1⟩
      go_wp2_with fail
      refine (isSet _ _ _ _ _ _ (hb.keep (keeps_below hb1))).mono ?_; rintro e w2 ⟨rfl, hq2⟩
      have hb2 := below_qt hq2 hb1
      go_wp2
      go_ret
      exact ⟨_, rfl, by rw [E.out]; exact OPS.nil _ _, hb2.mono hB⟩
  · replace h1 : pairsB ps 256 = false := by simpa using h1
    have HO := Lib.hid (show okPM ps keep = false by unfold okPM; rw [h1]; rfl)
    have E := Lib.hid (show pairsOnR ps keep = [] from if_neg (by rw [HO.out]; simp))
    go_enter Try.func40, Try.ntmps40
    go_wp2_with fail
    refine (arePairs _ _ _ _ _ _ _ (Nat.le_refl _) ha).mono ?_; rintro e w1 ⟨rfl, hb1⟩
    go_wp2
    go_ret
    exact ⟨_, rfl, by rw [E.out]; exact OPS.nil _ _, hb1.mono hB⟩

set_option maxRecDepth 100000 in
set_option maxHeartbeats 1600000 in
theorem specPairsOn (A C : Option Addr) (n c m d : Nat) (ps : List PairD) (keep : List Int) (w : World) (B : Nat) (hB : B ≤ w.heap.size) (ha : RPS w A n c ps) (hb : RI w C m d keep) :
    Calls Try.prog 37 #[.slice A n c, .slice C m d] w fun e w' => ∃ v, e = .returned v ∧ OPS w' B v (pairsOnR ps keep) ∧ Below B w w' := by
  have b1 := ha.cap; have b2 := ha.top; have b3 := hb.cap; have b4 := hb.top
  have L1 := ha.len; have L2 := hb.len
  have HL1 := Lib.hid L1; have HL2 := Lib.hid L2
  clear L1 L2
  have hba : Below w.heap.size w (w.alloc (.cells #[] 101)) := below_alloc (Nat.le_refl _) (Below.refl _ _)
  have hem := OPS.empty (w := w) (B := w.heap.size) (Nat.le_refl _)
  by_cases h1 : pairsB ps 256 = true
  · by_cases h2 : setB keep 256 = true
    · have HO := Lib.hid (show okPM ps keep = true by unfold okPM; rw [h1, h2]; rfl)
      have hf := finePs_of h1 (by omega) (by omega)
      have hn : n ≤ 4 := by have := hf.1; rw [HL1.out] at this; omega
      have hm : m ≤ 1048576 := by have := set_len h2 (by omega); rw [HL2.out] at this; omega
      clear hf
      have E := Lib.hid (show pairsOnR ps keep = ps.map (pairOn keep) from if_pos HO.out)
      go_enter Try.func37, Try.ntmps37
      go_wp2_with fail
      refine (specPairsOk _ _ _ _ _ _ (ha.keep (keeps_below hba))).mono ?_; rintro e w1 ⟨rfl, hq1⟩
      rw [in256a]
      have hb1 := below_qt hq1 hba
      go_wp2_with fail
      refine (SetOk _ _ _ _ _ _ (hb.keep (keeps_below hb1))).mono ?_; rintro e w2 ⟨rfl, hq2⟩
      rw [in256a]
      have hb2 := below_qt hq2 hb1
      have ho2 := (hem.below (below_qt hq1 (Below.refl _ _))).below (below_qt hq2 (Below.refl _ _))
      go_wp2
      go_loopw [5, 6] (fun v i wr => ∃ (k : Nat) (L : List PairD), k ≤ n ∧ i = .int .i64 k ∧ L = pairsOnUp ps keep k ∧ OPS wr w.heap.size v L ∧ Below w.heap.size w wr) (fun _ i _ => n - (intOf i).toNat)
      case atStart => exact ⟨0, [], Nat.zero_le _, rfl, rfl, ho2, hb2⟩
      case round =>
        obtain ⟨k, L, hk, rfl, hLk, ho, hbr⟩ := hrel
        have HLk := Lib.hid hLk
        have hlen : L.length ≤ 1048576 := by rw [hLk]; unfold pairsOnUp; rw [List.length_map, List.length_take]; omega
        clear hLk
        obtain ⟨Av, cv, rfl⟩ := ho.form
        have hsz := hbr.size
        by_cases hlt : k < n
        · obtain ⟨bb, off, A1, n1, c1, A2, n2, c2, rfl, hc1, hc2, r1, r2⟩ := (ha.keep (keeps_below hbr)).at_ hlt
          have hb' := hb.keep (keeps_below hbr)
          have hX := Lib.hid (pairsOn_succ (ps := ps) (keep := keep) (k := k) (by rw [HL1.out]; exact hlt))
          have hwL := Below.refl wr.heap.size wr
          have hki : (k : Int) < (n : Int) := by omega
          have hk0 : (0 : Int) ≤ (k : Int) := by omega
          go_wp2_with fail
          have hc1r := hc1; have hc2r := hc2
          have hblk : bb < w.heap.size := by obtain ⟨b0, o0, _, _, _, _, _, _, e0, h0, _⟩ := ha.at_ hlt; injection e0 with e0; injection e0 with e0 _; subst e0; simpa using World.block_lt_of_cell? w _ h0
          go_region_law (first
            | (have tok := hob
               clear tok
               refine step_of_list (by rfl) (wp_pushP (.tmp 23) (.tmp 39) (by rfl) wr _ w.heap.size _ L _ _ (renL (gp ps k).1 keep) (renL (gp ps k).2 keep) (by rfl) (by rfl) hsz ho hwL hoa hob hap hlen ?_)
               intro v3 w3 ho3 hb3 hch3
               have hw3 := (hwL.mono hsz).trans hb3)
            | (have tok := hoa
               clear tok
               go_simp
               go_at_call 92
               refine (l16Renamed A2 _ n2 c2 _ _ (gp ps k).2 keep _ _ (Nat.le_refl _) (r2.keep (keeps_below (by repeat (first | with_reducible exact hwL | with_reducible refine Below.drew ?_ | with_reducible refine below_alloc (Nat.le_refl _) ?_)))) (hb'.keep (keeps_below (by repeat (first | with_reducible exact hwL | with_reducible refine Below.drew ?_ | with_reducible refine below_alloc (Nat.le_refl _) ?_)))) hm).mono ?_
               rintro e wb ⟨vb, rfl, hob, hbb2⟩
               obtain ⟨Ab, cb, rfl⟩ := hob.form
               have hap := apart_lt hoa hob (Nat.le_refl _)
               replace hoa := hoa.below hbb2
               replace hob := hob.more (lo' := wr.heap.size) hwL.size
               replace hwL := below_then hbb2 hwL.size hwL
               have hc1 := (keeps_below hwL) _ _ hc1r
               have hc2 := (keeps_below hwL) _ _ hc2r)
            | (go_simp
               go_at_call 92
               refine (l16Renamed A1 _ n1 c1 _ _ (gp ps k).1 keep _ _ (Nat.le_refl _) (r1.keep (keeps_below (by repeat (first | with_reducible exact hwL | with_reducible refine Below.drew ?_ | with_reducible refine below_alloc (Nat.le_refl _) ?_)))) (hb'.keep (keeps_below (by repeat (first | with_reducible exact hwL | with_reducible refine Below.drew ?_ | with_reducible refine below_alloc (Nat.le_refl _) ?_)))) hm).mono ?_
               rintro e wa ⟨va, rfl, hoa, hba2⟩
               obtain ⟨Aa, ca, rfl⟩ := hoa.form
               replace hba2 := below_undrew hba2
               have hswL := hwL.size
               replace hoa := hoa.more (lo' := wr.heap.size) hswL
               replace hwL := below_then hba2 hswL hwL
               have hc1 := (keeps_below hwL) _ _ hc1r
               have hc2 := (keeps_below hwL) _ _ hc2r))
          all_goals
            go_wp2
            go_roundw
            case rel => exact ⟨k + 1, _, by omega, by go_num, by rw [hX.out, ← HLk.out], ho3, hbr.trans hw3⟩
            case measure => simp [intOf]; omega
        · obtain rfl : k = n := by omega
          have HE := Lib.hid (show L = ps.map (pairOn keep) by rw [HLk.out]; unfold pairsOnUp; rw [List.take_of_length_le (by rw [HL1.out]; omega)])
          go_wp2
          go_ret
          exact ⟨_, rfl, by rw [E.out, ← HE.out]; exact ho.more hB, hbr.mono hB⟩
    · replace h2 : setB keep 256 = false := by simpa using h2
      have HO := Lib.hid (show okPM ps keep = false by unfold okPM; rw [h2]; simp)
      have E := Lib.hid (show pairsOnR ps keep = [] from if_neg (by rw [HO.out]; simp))
      go_enter Try.func37, Try.ntmps37
      go_wp2_with fail
      refine (specPairsOk _ _ _ _ _ _ (ha.keep (keeps_below hba))).mono ?_; rintro e w1 ⟨rfl, hq1⟩
      rw [in256a]
      have hb1 := below_qt hq1 hba
      go_wp2_with fail
      refine (SetOk _ _ _ _ _ _ (hb.keep (keeps_below hb1))).mono ?_; rintro e w2 ⟨rfl, hq2⟩
      rw [in256a]
      have hb2 := below_qt hq2 hb1
      go_wp2
      go_ret
      exact ⟨_, rfl, by rw [E.out]; exact ((hem.below (below_qt hq1 (Below.refl _ _))).below (below_qt hq2 (Below.refl _ _))).more hB, hb2.mono hB⟩
  · replace h1 : pairsB ps 256 = false := by simpa using h1
    have HO := Lib.hid (show okPM ps keep = false by unfold okPM; rw [h1]; rfl)
    have E := Lib.hid (show pairsOnR ps keep = [] from if_neg (by rw [HO.out]; simp))
    go_enter Try.func37, Try.ntmps37
    go_wp2_with fail
    refine (specPairsOk _ _ _ _ _ _ (ha.keep (keeps_below hba))).mono ?_; rintro e w1 ⟨rfl, hq1⟩
    rw [in256a]
    have hb1 := below_qt hq1 hba
    go_wp2
    go_ret
    exact ⟨_, rfl, by rw [E.out]; exact (hem.below (below_qt hq1 (Below.refl _ _))).more hB, hb1.mono hB⟩

end Go.Proofs.Ytiojggephmacpaa
