/- TextPlan, spec and impl: contracts. -/
import Derived.Test.YtkhkdnmpbfmmeaaDoorTxtL
import Derived.Test.YtkhkdnmpbfmmeaaDoorFn5
namespace Go.Proofs.YtkhkdnmpbfmmeaaDoor
open Go.RowKit

theorem take_snocL {α : Type} {l : List α} {k : Nat} (h : k < l.length) : l.take (k + 1) = l.take k ++ [l[k]] := List.take_succ_eq_append_getElem h
/-- the entries of the words of a text -/
def ents (ws : List (List UInt8)) : List Int := ws.map unm
def tplOk (s : List UInt8) : Bool := decide (s.length ≤ 3000 ∧ (s = [] ∨ ((spl 32 s).length ≤ 256 ∧ ∀ x ∈ spl 32 s, -1 ≤ unm x)))
/-- the plan of a text -/
def tplD (s : List UInt8) : List Int := if tplOk s = true ∧ s ≠ [] then ents (spl 32 s) else []
theorem tplD_no {s : List UInt8} (h : tplOk s = false) : tplD s = [] := by unfold tplD; rw [h]; simp
theorem tplD_nil : tplD [] = [] := by unfold tplD; simp
theorem tplD_yes {s : List UInt8} (h : tplOk s = true) (h1 : s ≠ []) : tplD s = ents (spl 32 s) := by unfold tplD; rw [if_pos ⟨h, h1⟩]
theorem tplOk_nil : tplOk [] = true := by decide
theorem unm_le (x : List UInt8) : unm x ≤ 255 := by
  unfold unm
  split
  · omega
  · split
    · have := (rdNum_le (by assumption : 0 ≤ rdNum x 255)).1; exact this
    · omega
theorem tplOk_long {s : List UInt8} (h : 3000 < s.length) : tplOk s = false := decide_eq_false fun e => by have := e.1; omega
theorem tplOk_many {s : List UInt8} (h0 : s ≠ []) (h : 256 < (spl 32 s).length) : tplOk s = false := decide_eq_false fun e => by
  rcases e.2 with e | e
  · exact h0 e
  · have := e.1; omega
theorem tplOk_bad {s : List UInt8} (h0 : s ≠ []) {x : List UInt8} (hx : x ∈ spl 32 s) (h : unm x < -1) : tplOk s = false := decide_eq_false fun e => by
  rcases e.2 with e | e
  · exact h0 e
  · have := e.2 x hx; omega
theorem tplOk_yes {s : List UInt8} (h1 : s.length ≤ 3000) (h2 : (spl 32 s).length ≤ 256) (h3 : ∀ x ∈ spl 32 s, -1 ≤ unm x) : tplOk s = true := decide_eq_true ⟨h1, .inr ⟨h2, h3⟩⟩
theorem splT_len (c : UInt8) (s : ByteArray) : (splT c s).length = (spl c s.data.toList).length := by unfold splT; simp
/-- piece i -/
def gx (l : List (List UInt8)) (i : Nat) : List UInt8 := l.getD i []
theorem gx_get {l : List (List UInt8)} {i : Nat} (h : i < l.length) : gx l i = l[i] := by simp [gx, h]
theorem gt_splT (c : UInt8) (s : ByteArray) (i : Nat) : gt (splT c s) i = tx (gx (spl c s.data.toList) i) := by
  unfold gt splT gx
  rw [List.getD_eq_getElem?_getD, List.getD_eq_getElem?_getD, List.getElem?_map]
  cases (spl c s.data.toList)[i]? with
  | none => rfl
  | some x => rfl
theorem gtd (c : UInt8) (s : ByteArray) (i : Nat) : (gt (splT c s) i).data.toList = gx (spl c s.data.toList) i := by rw [gt_splT, tx_data]
theorem gx_mem {l : List (List UInt8)} {i : Nat} (h : i < l.length) : gx l i ∈ l := by rw [gx_get h]; exact List.getElem_mem _
theorem gx_all {l : List (List UInt8)} {p : List UInt8 → Prop} (h : ∀ i, i < l.length → p (gx l i)) : ∀ x ∈ l, p x := by
  intro x hx
  obtain ⟨i, hi, rfl⟩ := List.getElem_of_mem hx
  have := h i hi
  rwa [gx_get hi] at this
theorem ents_snoc {l : List (List UInt8)} {k : Nat} (h : k < l.length) : ents (l.take (k + 1)) = ents (l.take k) ++ [unm (gx l k)] := by
  unfold ents
  rw [take_snocL h, List.map_append, gx_get h]
  rfl
set_option maxRecDepth 100000 in
set_option maxHeartbeats 1600000 in
theorem specTextPlan (s : ByteArray) (w : World) (B : Nat) (hB : B ≤ w.heap.size) :
    Calls Tryd.prog 21 #[.string s] w fun e w' => ∃ v, e = .returned (.tuple #[v, .bool (tplOk s.data.toList)]) ∧ OI 2 w' B v (tplD s.data.toList) ∧ Below B w w' := by
  have HZ := Lib.hid (Lib.size_eq s)
  by_cases h1 : 3000 < s.size
  · have E := Lib.hid (tplOk_long (s := s.data.toList) (by rw [← HZ.out]; exact h1))
    go_enter Tryd.func21, Tryd.ntmps21
    go_wp2
    refine bodyPost_ret (v := .tuple #[.slice (some ⟨w.heap.size, 0, none⟩) 0 0, .bool false]) (by simp [results, Tryd.results21, go_sem]) rfl ?_
    exact ⟨_, by rw [E.out], by rw [tplD_no E.out]; exact OI.empty hB, below_alloc hB (Below.refl _ _)⟩
  by_cases h0 : s.size < 1
  · have hs0 : s.toList.isEmpty = true := by rw [empty_of h0, Lib.toList_data]; rfl
    have E := Lib.hid (show s.data.toList = [] by rw [empty_of h0])
    clear h0
    go_enter Tryd.func21, Tryd.ntmps21
    go_wp2
    refine bodyPost_ret (v := .tuple #[.slice (some ⟨w.heap.size, 0, none⟩) 0 0, .bool true]) (by simp [results, Tryd.results21, go_sem]) rfl ?_
    exact ⟨_, by rw [E.out, tplOk_nil], by rw [E.out, tplD_nil]; exact OI.empty hB, below_alloc hB (Below.refl _ _)⟩
  have hs0 : s.toList.isEmpty = false := filled_of h0
  have HN := Lib.hid (show s.data.toList ≠ [] from fun e => h0 (by rw [HZ.out, e]; simp))
  have hs4 : s.size ≤ 4000000 := by omega
  clear h0
  go_enter Tryd.func21, Tryd.ntmps21
  go_wp2_with fail
  refine (l1Split _ 32 32 rfl _ _ (Nat.le_refl _) hs4).mono ?_; rintro e w1 ⟨v, rfl, ho1, hb1⟩
  obtain ⟨A1, c1, rfl⟩ := ho1.form
  have hl1 := ho1.reads.len
  rw [splT_len] at hl1
  have hcap := ho1.reads.cap
  have htop := ho1.reads.top
  have HLn := Lib.hid (splT_len 32 s)
  clear hl1
  by_cases h2 : 256 < (splT 32 s).length
  · have E := Lib.hid (tplOk_many HN.out (by rw [← HLn.out]; exact h2))
    go_wp2
    refine bodyPost_ret (v := .tuple #[.slice (some ⟨w.heap.size, 0, none⟩) 0 0, .bool false]) (by simp [results, Tryd.results21, go_sem]) rfl ?_
    exact ⟨_, by rw [E.out], by rw [tplD_no E.out]; exact (OI.empty (Nat.le_refl _)).below hb1 |>.more hB, (below_then hb1 (by simp) (below_alloc (Nat.le_refl _) (Below.refl _ _))).mono hB⟩
  have h2' : (splT 32 s).length ≤ 256 := by omega
  have hw1 : Below w.heap.size w w1 := below_then hb1 (by simp) (below_alloc (Nat.le_refl _) (Below.refl _ _))
  have hs1 := hw1.size
  have hv0 : OI 2 w1 w.heap.size (.slice (some ⟨w.heap.size, 0, none⟩) 0 0) [] := (OI.empty (Nat.le_refl _)).below hb1
  have hs1' := hb1.size
  go_wp2
  go_loopw [4, 6] (fun v i wr => ∃ k : Nat, k ≤ (splT 32 s).length ∧ i = .int .i64 k ∧ (∀ j, j < k → -1 ≤ unm (gx (spl 32 s.data.toList) j)) ∧ OI 2 wr w.heap.size v (ents ((spl 32 s.data.toList).take k)) ∧ Below w.heap.size w wr ∧ OS wr w.heap.size (.slice A1 (splT 32 s).length c1) (splT 32 s)) (fun _ i _ => (splT 32 s).length - (intOf i).toNat)
  case atStart => exact ⟨0, Nat.zero_le _, rfl, by omega, hv0, hw1, ho1.more (by simp)⟩
  case round =>
    obtain ⟨k, hk, rfl, hall, ho, hbr, hrr⟩ := hrel
    have hsz := hbr.size
    have HA := Lib.hid hall
    clear hall
    by_cases hlt : k < (splT 32 s).length
    · obtain ⟨b, off, hA, hc1⟩ := (OS.reads hrr).at_ hlt
      subst hA
      have hlk : k < (spl 32 s.data.toList).length := by rw [← HLn.out]; exact hlt
      have HG := Lib.hid (gtd 32 s k)
      by_cases hu : -1 ≤ unm (gx (spl 32 s.data.toList) k)
      · have HS := Lib.hid (ents_snoc hlk)
        have hll : (ents ((spl 32 s.data.toList).take k)).length ≤ 4194304 := by unfold ents; rw [List.length_map, List.length_take]; omega
        obtain ⟨Av, cv, rfl⟩ := ho.form
        have HU := Lib.hid hu
        clear hlk
        go_wp2_with (first
          | (go_at_call 58; refine (l13Unmark _ _).mono ?_; rintro e w2 ⟨rfl, q, rfl⟩; rw [HG.out])
          | (at_builtin; refine wpList_pushI rfl (.tmp 36) (.tmp 38) rfl (wr.drewN q) w.heap.size (.slice Av (ents ((spl 32 s.data.toList).take k)).length cv) (ents ((spl 32 s.data.toList).take k)) rfl ho _ rfl hll hsz ?_; intro v' w2 ho2 hb2 hc2 hv2))
        go_roundw
        case rel =>
          refine ⟨k + 1, by omega, by go_num, all_succ HA.out HU.out, by rw [HS.out]; exact ho2, (below_drewN hbr q).trans hb2, ?_⟩
          exact row_chg (w := wr.drewN q) hrr hc2 (fun x hx e => own_ne hrr ho (by decide) x hx e)
        case measure => simp [intOf]; omega
      · have E := Lib.hid (tplOk_bad HN.out (gx_mem hlk) (by omega))
        have hu' : unm (gx (spl 32 s.data.toList) k) < -1 := by omega
        clear hu hlk
        go_wp2_with (go_at_call 58; refine (l13Unmark _ _).mono ?_; rintro e w2 ⟨rfl, q, rfl⟩; rw [HG.out])
        refine bodyPost_ret (v := .tuple #[.slice (some ⟨wr.heap.size, 0, none⟩) 0 0, .bool false]) (by simp [results, Tryd.results21, go_sem]) rfl ?_
        exact ⟨_, by rw [E.out], by rw [tplD_no E.out]; exact OI.empty (w := wr.drewN q) (Nat.le_trans hB hsz), (below_alloc (Nat.le_refl _) (below_drewN hbr q)).mono hB⟩
    · obtain rfl : k = (splT 32 s).length := by omega
      have E := Lib.hid (tplOk_yes (s := s.data.toList) (by rw [← HZ.out]; omega) (by rw [← HLn.out]; exact h2') (gx_all (by rw [← HLn.out]; exact HA.out)))
      have E2 := Lib.hid (tplD_yes E.out HN.out)
      rw [List.take_of_length_le (by rw [HLn.out]; exact Nat.le_refl _)] at ho
      obtain ⟨Av, cv, rfl⟩ := ho.form
      go_wp2
      refine bodyPost_ret (v := .tuple #[.slice Av (ents (spl 32 s.data.toList)).length cv, .bool true]) (by simp [results, Tryd.results21, go_sem]) rfl ?_
      exact ⟨_, by rw [E.out], by rw [E2.out]; exact ho.more hB, hbr.mono hB⟩
theorem rev_unm {l : List UInt8} (h : -1 ≤ unm l) : rev l = unm l := by
  unfold unm at h ⊢
  unfold rev
  split
  · rfl
  · rename_i h1
    rw [if_neg h1] at h
    split at h
    · rename_i h2
      rw [if_pos h2]
      obtain ⟨_, g2, g3⟩ := rdNum_le h2
      rw [rdVal_ok g3, g2]
    · omega
theorem ents_ok {ws : List (List UInt8)} (h : ∀ i, i < ws.length → -1 ≤ unm (gx ws i)) : entOk (ents ws) = decide (ws.length ≤ 256) := by
  unfold entOk ents
  rw [List.length_map]
  by_cases e : ws.length ≤ 256
  · rw [decide_eq_true e]
    refine decide_eq_true ⟨e, fun u hu => ?_⟩
    obtain ⟨x, hx, rfl⟩ := List.mem_map.1 hu
    have h1 := gx_all (p := fun z => -1 ≤ unm z) h x hx
    have h2 := unm_le x
    omega
  · rw [decide_eq_false e]
    exact decide_eq_false (fun h => e h.1)

set_option maxRecDepth 100000 in
set_option maxHeartbeats 1600000 in
theorem implTextPlan (s : ByteArray) (w : World) (B : Nat) (hB : B ≤ w.heap.size) (hM : Max w) :
    Calls Tryd.prog 22 #[.string s] w fun e w' => ∃ v, e = .returned (.tuple #[v, .bool (tplOk s.data.toList)]) ∧ OI 2 w' B v (tplD s.data.toList) ∧ Below B w w' := by
  have HZ := Lib.hid (Lib.size_eq s)
  by_cases h1 : 3000 < s.size
  · have E := Lib.hid (tplOk_long (s := s.data.toList) (by rw [← HZ.out]; exact h1))
    go_enter Tryd.func22, Tryd.ntmps22
    go_wp2
    refine bodyPost_ret (v := .tuple #[.slice none 0 0, .bool false]) (by simp [results, Tryd.results22, go_sem]) rfl ?_
    exact ⟨_, by rw [E.out], by rw [tplD_no E.out]; exact OI.nil _ _ _, Below.refl _ _⟩
  by_cases h0 : s.size < 1
  · have hs0 : s.toList.isEmpty = true := by rw [empty_of h0, Lib.toList_data]; rfl
    have E := Lib.hid (show s.data.toList = [] by rw [empty_of h0])
    clear h0
    go_enter Tryd.func22, Tryd.ntmps22
    go_wp2
    refine bodyPost_ret (v := .tuple #[.slice none 0 0, .bool true]) (by simp [results, Tryd.results22, go_sem]) rfl ?_
    exact ⟨_, by rw [E.out, tplOk_nil], by rw [E.out, tplD_nil]; exact OI.nil _ _ _, Below.refl _ _⟩
  have hs0 : s.toList.isEmpty = false := filled_of h0
  have HN := Lib.hid (show s.data.toList ≠ [] from fun e => h0 (by rw [HZ.out, e]; simp))
  have hs4 : s.size ≤ 4000000 := by omega
  clear h0
  have hM' : Max (w.alloc (.cells #[] 2)) := hM.keep (keeps_alloc _ _)
  go_enter Tryd.func22, Tryd.ntmps22
  go_wp2_with fail
  refine (stringsSplit s 32 _ hM' hs4).mono ?_; rintro e w1 ⟨v, rfl, ho1, hb1⟩
  obtain ⟨A1, c1, rfl⟩ := ho1.form
  have hcap := ho1.reads.cap
  have htop := ho1.reads.top
  have HLn := Lib.hid (splT_len 32 s)
  have hw1 : Below w.heap.size w w1 := below_then hb1 (by simp) (below_alloc (Nat.le_refl _) (Below.refl _ _))
  have hs1 := hw1.size
  have hv0 : OI 2 w1 w.heap.size (.slice (some ⟨w.heap.size, 0, none⟩) 0 0) [] := (OI.empty (Nat.le_refl _)).below hb1
  have hs1' := hb1.size
  have hpl : (splT 32 s).length ≤ 3001 := by
    rw [HLn.out]
    have h2 := spl_length 32 _ s.data.toList (Nat.le_refl _)
    have h3 : ((spl 32 s.data.toList).map (fun x => 1)).sum ≤ ((spl 32 s.data.toList).map (fun x => x.length + 1)).sum := by
      generalize spl 32 s.data.toList = L
      induction L with
      | nil => simp
      | cons x r ih => simp only [List.map_cons, List.sum_cons]; omega
    have h4 : ((spl 32 s.data.toList).map (fun x => 1)).sum = (spl 32 s.data.toList).length := by
      generalize spl 32 s.data.toList = L
      induction L with
      | nil => rfl
      | cons x r ih => simp only [List.map_cons, List.sum_cons, List.length_cons, ih]; omega
    have := HZ.out
    omega
  go_wp2
  go_loopw [4, 18] (fun v i wr => ∃ k : Nat, k ≤ (splT 32 s).length ∧ i = .int .i64 k ∧ (∀ j, j < k → -1 ≤ unm (gx (spl 32 s.data.toList) j)) ∧ OI 2 wr w.heap.size v (ents ((spl 32 s.data.toList).take k)) ∧ Below w.heap.size w wr ∧ OS wr w.heap.size (.slice A1 (splT 32 s).length c1) (splT 32 s)) (fun _ i _ => (splT 32 s).length - (intOf i).toNat)
  case atStart => exact ⟨0, Nat.zero_le _, rfl, by omega, hv0, hw1, ho1.more (by simp)⟩
  case round =>
    obtain ⟨k, hk, rfl, hall, ho, hbr, hrr⟩ := hrel
    have hsz := hbr.size
    have HA := Lib.hid hall
    clear hall
    by_cases hlt : k < (splT 32 s).length
    · obtain ⟨b, off, hA, hc1⟩ := (OS.reads hrr).at_ hlt
      subst hA
      have hlk : k < (spl 32 s.data.toList).length := by rw [← HLn.out]; exact hlt
      have HG := Lib.hid (gtd 32 s k)
      by_cases hu : -1 ≤ unm (gx (spl 32 s.data.toList) k)
      · have HS := Lib.hid (ents_snoc hlk)
        have hll : (ents ((spl 32 s.data.toList).take k)).length ≤ 4194304 := by unfold ents; rw [List.length_map, List.length_take]; omega
        obtain ⟨Av, cv, rfl⟩ := ho.form
        have HU := Lib.hid hu
        have HR := Lib.hid (rev_unm hu)
        have HB := Lib.hid (show reb (gx (spl 32 s.data.toList) k) = true from decide_eq_true hu)
        clear hlk hu
        go_wp2_with (first
          | (go_at_call 60; refine (readEntry _ _).mono ?_; rintro e w2 ⟨rfl, q, rfl⟩; rw [HG.out, HR.out, HB.out])
          | (at_builtin; refine wpList_pushI rfl (.tmp 29) (.tmp 31) rfl (wr.drewN q) w.heap.size (.slice Av (ents ((spl 32 s.data.toList).take k)).length cv) (ents ((spl 32 s.data.toList).take k)) rfl ho _ rfl hll hsz ?_; intro v' w2 ho2 hb2 hc2 hv2))
        go_roundw
        case rel =>
          refine ⟨k + 1, by omega, by go_num, all_succ HA.out HU.out, by rw [HS.out]; exact ho2, (below_drewN hbr q).trans hb2, ?_⟩
          exact row_chg (w := wr.drewN q) hrr hc2 (fun x hx e => own_ne hrr ho (by decide) x hx e)
        case measure => simp [intOf]; omega
      · have E := Lib.hid (tplOk_bad HN.out (gx_mem hlk) (by omega))
        have HB := Lib.hid (show reb (gx (spl 32 s.data.toList) k) = false from decide_eq_false hu)
        clear hu hlk
        go_wp2_with (go_at_call 60; refine (readEntry _ _).mono ?_; rintro e w2 ⟨rfl, q, rfl⟩; rw [HG.out, HB.out])
        refine bodyPost_ret (v := .tuple #[.slice none 0 0, .bool false]) (by simp [results, Tryd.results22, go_sem]) rfl ?_
        exact ⟨_, by rw [E.out], by rw [tplD_no E.out]; exact OI.nil _ _ _, (below_drewN hbr q).mono hB⟩
    · obtain rfl : k = (splT 32 s).length := by omega
      rw [List.take_of_length_le (by rw [HLn.out]; exact Nat.le_refl _)] at ho
      have HE := Lib.hid (ents_ok (ws := spl 32 s.data.toList) (by rw [← HLn.out]; exact HA.out))
      obtain ⟨Av, cv, rfl⟩ := ho.form
      by_cases h2 : (spl 32 s.data.toList).length ≤ 256
      · have E := Lib.hid (tplOk_yes (s := s.data.toList) (by rw [← HZ.out]; omega) h2 (gx_all (by rw [← HLn.out]; exact HA.out)))
        have E2 := Lib.hid (tplD_yes E.out HN.out)
        have E3 := Lib.hid (show entOk (ents (spl 32 s.data.toList)) = true by rw [HE.out]; exact decide_eq_true h2)
        clear h2
        go_wp2_with (go_at_call 55; refine (areEntries _ _ _ _ _ ho.reads).mono ?_; rintro e w2 ⟨rfl, q, rfl⟩; rw [E3.out])
        refine bodyPost_ret (v := .tuple #[.slice Av (ents (spl 32 s.data.toList)).length cv, .bool true]) (by simp [results, Tryd.results22, go_sem]) rfl ?_
        exact ⟨_, by rw [E.out], by rw [E2.out]; exact OI.more (w := wr.drewN q) ho hB, (below_drewN hbr q).mono hB⟩
      · have E := Lib.hid (tplOk_many HN.out (show 256 < (spl 32 s.data.toList).length by omega))
        have E3 := Lib.hid (show entOk (ents (spl 32 s.data.toList)) = false by rw [HE.out]; exact decide_eq_false h2)
        clear h2
        go_wp2_with (go_at_call 55; refine (areEntries _ _ _ _ _ ho.reads).mono ?_; rintro e w2 ⟨rfl, q, rfl⟩; rw [E3.out])
        refine bodyPost_ret (v := .tuple #[.slice none 0 0, .bool false]) (by simp [results, Tryd.results22, go_sem]) rfl ?_
        exact ⟨_, by rw [E.out], by rw [tplD_no E.out]; exact OI.nil _ _ _, (below_drewN hbr q).mono hB⟩
theorem tplD_len (s : List UInt8) : ((tplD s).length : Int) ≤ 256 := by
  unfold tplD
  split
  · rename_i h
    obtain ⟨h1, h2⟩ := h
    rcases (of_decide_eq_true h1).2 with e | e
    · exact absurd e h2
    · unfold ents
      rw [List.length_map]
      have := e.1
      omega
  · simp
end Go.Proofs.YtkhkdnmpbfmmeaaDoor
