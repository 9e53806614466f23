/- Ranks towards a goal: what ranksIn and l3Ranks count. Plain. Ranks: isPulled, l3Rank, l1Marks, l1Same, l1Max, l3Ok. -/
import Derived.Test.YtlmhhnplacejkaaPlan
import Derived.Test.YtlmhhnplacejkaaStay
import Derived.Test.YtlmhhnplacejkaaAcc
import Derived.Test.YtlmhhnplacejkaaCopy
import Derived.Deep.RegionHeld3
namespace Go.Proofs.Ytlmhhnplacejkaa
open Go.RowKit

/-! ### is a vertex pulled to ranked ones -/
def pSome (ns : List Int) (ins : List Bool) (rk : List Int) : Nat → Bool
  | 0 => false
  | k + 1 => pSome ns ins rk k || (gb ins (gi ns k).toNat && decide (0 ≤ gi rk (gi ns k).toNat))
def pAll (ns : List Int) (ins : List Bool) (rk : List Int) : Nat → Bool
  | 0 => true
  | k + 1 => pAll ns ins rk k && (!gb ins (gi ns k).toNat || decide (0 ≤ gi rk (gi ns k).toNat))
def pIn (ns : List Int) (ins : List Bool) : Nat → Bool
  | 0 => false
  | k + 1 => pIn ns ins k || gb ins (gi ns k).toNat
def pulledB (o : List Int) (n : List (List Int)) (who : Int) (ins : List Bool) (rk : List Int) (v : Nat) : Bool :=
  if gi o v = who then pSome (gl n v) ins rk (gl n v).length else pIn (gl n v) ins (gl n v).length && pAll (gl n v) ins rk (gl n v).length
theorem pSome_out {ns : List Int} {ins : List Bool} {rk : List Int} {k j : Nat} (h : gi ns k = (j : Int)) (hg : gb ins j = false) : pSome ns ins rk (k + 1) = pSome ns ins rk k := by rw [pSome, h, Int.toNat_natCast, hg]; simp
theorem pAll_out {ns : List Int} {ins : List Bool} {rk : List Int} {k j : Nat} (h : gi ns k = (j : Int)) (hg : gb ins j = false) : pAll ns ins rk (k + 1) = pAll ns ins rk k := by rw [pAll, h, Int.toNat_natCast, hg]; simp
theorem pIn_at {ns : List Int} {ins : List Bool} {k j : Nat} (h : gi ns k = (j : Int)) : pIn ns ins (k + 1) = (pIn ns ins k || gb ins j) := by rw [pIn, h, Int.toNat_natCast]
theorem pSome_at {ns : List Int} {ins : List Bool} {rk : List Int} {k j : Nat} (h : gi ns k = (j : Int)) (hg : gb ins j = true) : pSome ns ins rk (k + 1) = (pSome ns ins rk k || decide (0 ≤ gi rk j)) := by rw [pSome, h, Int.toNat_natCast, hg]; simp
theorem pAll_at {ns : List Int} {ins : List Bool} {rk : List Int} {k j : Nat} (h : gi ns k = (j : Int)) (hg : gb ins j = true) : pAll ns ins rk (k + 1) = (pAll ns ins rk k && decide (0 ≤ gi rk j)) := by rw [pAll, h, Int.toNat_natCast, hg]; simp
theorem pSome_iff {ns : List Int} {ins : List Bool} {rk : List Int} : ∀ {k : Nat}, pSome ns ins rk k = true ↔ ∃ i, i < k ∧ gb ins (gi ns i).toNat = true ∧ 0 ≤ gi rk (gi ns i).toNat
  | 0 => by simp [pSome]
  | k + 1 => by
    rw [pSome, Bool.or_eq_true, pSome_iff, Bool.and_eq_true, decide_eq_true_iff]
    constructor
    · rintro (⟨i, hi, h⟩ | h)
      · exact ⟨i, by omega, h⟩
      · exact ⟨k, by omega, h⟩
    · rintro ⟨i, hi, h⟩
      by_cases e : i = k
      · subst e; exact .inr h
      · exact .inl ⟨i, by omega, h⟩
theorem pAll_iff {ns : List Int} {ins : List Bool} {rk : List Int} : ∀ {k : Nat}, pAll ns ins rk k = true ↔ ∀ i, i < k → gb ins (gi ns i).toNat = true → 0 ≤ gi rk (gi ns i).toNat
  | 0 => by simp [pAll]
  | k + 1 => by
    rw [pAll, Bool.and_eq_true, pAll_iff, Bool.or_eq_true, decide_eq_true_iff]
    constructor
    · rintro ⟨h1, h2⟩ i hi hg
      by_cases e : i = k
      · subst e
        rcases h2 with h2 | h2
        · rw [hg] at h2; cases h2
        · exact h2
      · exact h1 i (by omega) hg
    · intro h
      refine ⟨fun i hi => h i (by omega), ?_⟩
      cases hg : gb ins (gi ns k).toNat with
      | false => exact .inl rfl
      | true => exact .inr (h k (by omega) hg)
theorem pIn_iff {ns : List Int} {ins : List Bool} : ∀ {k : Nat}, pIn ns ins k = true ↔ ∃ i, i < k ∧ gb ins (gi ns i).toNat = true
  | 0 => by simp [pIn]
  | k + 1 => by
    rw [pIn, Bool.or_eq_true, pIn_iff]
    constructor
    · rintro (⟨i, hi, h⟩ | h)
      · exact ⟨i, by omega, h⟩
      · exact ⟨k, by omega, h⟩
    · rintro ⟨i, hi, h⟩
      by_cases e : i = k
      · subst e; exact .inr h
      · exact .inl ⟨i, by omega, h⟩

/-! ### a list into which the elements of a set are written -/
def hasFill (f g : Nat → Int) (xs : List Int) (j n : Nat) : List Int := fill (fun v => if hasL (xs.take j) (v : Int) = true then f v else g v) n
theorem hasFill_len (f g : Nat → Int) (xs : List Int) (j n : Nat) : (hasFill f g xs j n).length = n := fill_len _ _
theorem hasFill_zero (f g : Nat → Int) (xs : List Int) (n : Nat) : hasFill f g xs 0 n = fill g n := by
  unfold hasFill
  exact congrArg (fun h => fill h n) (funext fun v => by rw [List.take_zero, if_neg (by simp [hasL])])
theorem hasFill_step {f g : Nat → Int} {xs : List Int} {j n u : Nat} (hj : j < xs.length) (hu : gi xs j = (u : Int)) (hn : u < n) : (hasFill f g xs j n).set u (f u) = hasFill f g xs (j + 1) n := by
  refine gi_ext (by simp [hasFill_len]) fun v hv => ?_
  rw [List.length_set, hasFill_len] at hv
  rw [gi_set (by rw [hasFill_len]; exact hn)]
  unfold hasFill
  rw [fill_at hv, fill_at hv, take_gi hj, hu]
  by_cases e : u = v
  · subst e
    rw [if_pos rfl, if_pos (by simp [hasL])]
  · rw [if_neg e]
    have : hasL (xs.take j ++ [(u : Int)]) (v : Int) = hasL (xs.take j) (v : Int) := by
      unfold hasL
      refine decide_eq_decide.2 ?_
      simp only [List.mem_append, List.mem_singleton]
      constructor
      · rintro (h | h)
        · exact h
        · omega
      · exact .inl
    rw [this]
theorem hasFill_skip {f g : Nat → Int} {xs : List Int} {j n u : Nat} (hj : j < xs.length) (hu : gi xs j = (u : Int)) (hs : f u = g u) : hasFill f g xs (j + 1) n = hasFill f g xs j n := by
  unfold hasFill
  congr 1
  funext v
  rw [take_gi hj, hu]
  by_cases e : u = v
  · subst e
    rw [if_pos (by simp [hasL])]
    split
    · rfl
    · exact hs
  · have : hasL (xs.take j ++ [(u : Int)]) (v : Int) = hasL (xs.take j) (v : Int) := by
      unfold hasL
      refine decide_eq_decide.2 ?_
      simp only [List.mem_append, List.mem_singleton]
      constructor
      · rintro (h | h)
        · exact h
        · omega
      · exact .inl
    rw [this]
theorem hasFill_all {f g : Nat → Int} {xs : List Int} {n m : Nat} (h : xs.length ≤ m) : hasFill f g xs m n = fill (fun v => if hasL xs (v : Int) = true then f v else g v) n := by
  unfold hasFill
  rw [List.take_of_length_le h]

/-! ### the rounds -/
def goalF (goal : List Int) (ins : List Bool) (v : Nat) : Int := if gb ins v = true then 0 else -1
def rnk0 (ins : List Bool) (goal : List Int) (m : Nat) : List Int := fill (fun v => if hasL goal (v : Int) = true then (if gb ins v = true then 0 else -1) else -1) m
def rnkC (o : List Int) (n : List (List Int)) (who : Int) (ins : List Bool) (R : List Int) (v : Nat) : Bool := decide (gi R v < 0) && pulledB o n who ins R v
def rnkS (o : List Int) (n : List (List Int)) (who : Int) (inn : List Int) (ins : List Bool) (R : List Int) (k : Nat) (m : Nat) : List Int := fill (fun v => if hasL inn (v : Int) = true then (if rnkC o n who ins R v = true then (k : Int) else gi R v) else gi R v) m
def rnks (o : List Int) (n : List (List Int)) (who : Int) (inn goal : List Int) (m : Nat) : Nat → List Int
  | 0 => rnk0 (mkM m inn) goal m
  | k + 1 => rnkS o n who inn (mkM m inn) (rnks o n who inn goal m k) (k + 1) m
theorem rnks_len (o : List Int) (n : List (List Int)) (who : Int) (inn goal : List Int) (m k : Nat) : (rnks o n who inn goal m k).length = m := by
  cases k <;> exact fill_len _ _
/-- no vertex comes in with the next round -/
def rnkEnd (o : List Int) (n : List (List Int)) (who : Int) (inn : List Int) (R : List Int) (m : Nat) : Prop := ∀ v, v < m → hasL inn (v : Int) = true → rnkC o n who (mkM m inn) R v = false
theorem rnkS_end {o : List Int} {n : List (List Int)} {who : Int} {inn : List Int} {R : List Int} {m : Nat} (hl : R.length = m) (h : rnkEnd o n who inn R m) (k : Nat) : rnkS o n who inn (mkM m inn) R k m = R := by
  refine gi_ext (by unfold rnkS; rw [fill_len, hl]) fun v hv => ?_
  unfold rnkS at hv ⊢
  rw [fill_len] at hv
  rw [fill_at hv]
  split
  · rename_i hi
    rw [h v hv hi]; rfl
  · rfl
theorem rnkS_new {o : List Int} {n : List (List Int)} {who : Int} {inn : List Int} {R : List Int} {m : Nat} {k : Nat} (h : rnkS o n who inn (mkM m inn) R k m = R) : rnkEnd o n who inn R m := by
  intro v hv hi
  cases e : rnkC o n who (mkM m inn) R v with
  | false => rfl
  | true =>
    have h1 : gi (rnkS o n who inn (mkM m inn) R k m) v = (k : Int) := by unfold rnkS; rw [fill_at hv, if_pos hi, if_pos e]
    rw [h] at h1
    unfold rnkC at e
    rw [Bool.and_eq_true, decide_eq_true_iff] at e
    omega
def isRnk (o : List Int) (n : List (List Int)) (who : Int) (inn goal : List Int) (m : Nat) (R : List Int) : Prop := ∃ k, R = rnks o n who inn goal m k ∧ rnkEnd o n who inn R m
theorem rnks_fix {o : List Int} {n : List (List Int)} {who : Int} {inn goal : List Int} {m k : Nat} (h : rnkEnd o n who inn (rnks o n who inn goal m k) m) : ∀ d, rnks o n who inn goal m (k + d) = rnks o n who inn goal m k
  | 0 => rfl
  | d + 1 => by rw [← Nat.add_assoc, rnks, rnks_fix h d, rnkS_end (rnks_len _ _ _ _ _ _ _) h]
theorem isRnk.eq {o : List Int} {n : List (List Int)} {who : Int} {inn goal : List Int} {m : Nat} {r r' : List Int} (h : isRnk o n who inn goal m r) (h' : isRnk o n who inn goal m r') : r = r' := by
  obtain ⟨t, rfl, hf⟩ := h
  obtain ⟨t', rfl, hf'⟩ := h'
  rcases Nat.le_total t t' with hl | hl
  · have := rnks_fix hf (t' - t)
    rw [show t + (t' - t) = t' from by omega] at this
    exact this.symm
  · have := rnks_fix hf' (t - t')
    rw [show t' + (t - t') = t from by omega] at this
    exact this
noncomputable def rankE (o : List Int) (n : List (List Int)) (who : Int) (inn goal : List Int) (m : Nat) : List Int := @Classical.epsilon _ ⟨[]⟩ (isRnk o n who inn goal m)
theorem isRnk.is {o : List Int} {n : List (List Int)} {who : Int} {inn goal : List Int} {m : Nat} {r : List Int} (h : isRnk o n who inn goal m r) : r = rankE o n who inn goal m := h.eq (@Classical.epsilon_spec _ (isRnk o n who inn goal m) ⟨r, h⟩)
theorem isRnk.len {o : List Int} {n : List (List Int)} {who : Int} {inn goal : List Int} {m : Nat} {r : List Int} (h : isRnk o n who inn goal m r) : r.length = m := by
  obtain ⟨t, rfl, _⟩ := h
  exact rnks_len _ _ _ _ _ _ _

/-! ### how many have no rank -/
theorem negs_fill (f : Nat → Int) (n : Nat) : negs (fill f n) = (List.range n).countP fun v => decide (f v < 0) := by
  unfold negs fill
  rw [List.countP_map]; rfl
theorem list_fill {L : List Int} {n : Nat} (h : L.length = n) : L = fill (gi L) n := gi_ext (by rw [fill_len, h]) fun j hj => by rw [fill_at (by omega)]
theorem countP_lt {p q : Nat → Bool} {l : List Nat} (h : ∀ x, x ∈ l → q x = true → p x = true) {y : Nat} (hy : y ∈ l) (hp : p y = true) (hq : q y = false) : l.countP q < l.countP p := by
  induction l with
  | nil => cases hy
  | cons a l ih =>
    rw [List.countP_cons, List.countP_cons]
    have hle : l.countP q ≤ l.countP p := List.countP_mono_left fun x hx => h x (by simp [hx])
    rcases List.mem_cons.1 hy with rfl | hy'
    · rw [hp, hq]; simp; omega
    · have := ih (fun x hx => h x (by simp [hx])) hy'
      have h1 : (if q a = true then 1 else 0) ≤ (if p a = true then 1 else 0) := by
        have := h a (by simp)
        cases hqa : q a with
        | false => simp
        | true => rw [this hqa]; simp
      omega
theorem rnkS_negs {o : List Int} {n : List (List Int)} {who : Int} {inn : List Int} {R : List Int} {m k : Nat} (hl : R.length = m) {v : Nat} (hv : v < m) (hi : hasL inn (v : Int) = true) (hc : rnkC o n who (mkM m inn) R v = true) : negs (rnkS o n who inn (mkM m inn) R k m) < negs R := by
  unfold rnkS
  rw [negs_fill]
  conv => rhs; rw [list_fill hl, negs_fill]
  have hneg : ∀ x, rnkC o n who (mkM m inn) R x = true → gi R x < 0 := fun x h => by
    unfold rnkC at h
    rw [Bool.and_eq_true, decide_eq_true_iff] at h
    exact h.1
  refine countP_lt (fun x _ hx => ?_) (List.mem_range.2 hv) (decide_eq_true (hneg v hc)) ?_
  · rw [decide_eq_true_iff] at hx ⊢
    by_cases h1 : hasL inn (x : Int) = true
    · rw [if_pos h1] at hx
      by_cases h2 : rnkC o n who (mkM m inn) R x = true
      · exact hneg x h2
      · rw [if_neg h2] at hx; exact hx
    · rw [if_neg h1] at hx; exact hx
  · rw [if_pos hi, if_pos hc]
    exact decide_eq_false (by omega)
theorem rnkE_ex (o : List Int) (n : List (List Int)) (who : Int) (inn goal : List Int) (m : Nat) : ∃ r, isRnk o n who inn goal m r := by
  have key : ∀ c t, negs (rnks o n who inn goal m t) ≤ c → ∃ r, isRnk o n who inn goal m r := by
    intro c
    induction c with
    | zero =>
      intro t ht
      refine ⟨_, t, rfl, fun v hv hi => ?_⟩
      cases hc : rnkC o n who (mkM m inn) (rnks o n who inn goal m t) v with
      | false => rfl
      | true =>
        have := rnkS_negs (k := 0) (rnks_len o n who inn goal m t) hv hi hc
        omega
    | succ c ih =>
      intro t ht
      by_cases e : rnkEnd o n who inn (rnks o n who inn goal m t) m
      · exact ⟨_, t, rfl, e⟩
      · have hx : ∃ v, v < m ∧ hasL inn (v : Int) = true ∧ rnkC o n who (mkM m inn) (rnks o n who inn goal m t) v = true := by
          refine Classical.byContradiction fun hne => e fun v hv hi => ?_
          cases hc : rnkC o n who (mkM m inn) (rnks o n who inn goal m t) v with
          | false => rfl
          | true => exact absurd ⟨v, hv, hi, hc⟩ hne
        obtain ⟨v, hv, hi, hc⟩ := hx
        refine ih (t + 1) ?_
        have := rnkS_negs (k := t + 1) (rnks_len o n who inn goal m t) hv hi hc
        rw [rnks]
        omega
  exact key _ 0 (Nat.le_refl _)
noncomputable def ranksL (o : List Int) (n : List (List Int)) (who : Int) (inn goal : List Int) : List Int := rankE o n who inn goal o.length
theorem ranksL_is (o : List Int) (n : List (List Int)) (who : Int) (inn goal : List Int) : isRnk o n who inn goal o.length (ranksL o n who inn goal) := by
  obtain ⟨r, h⟩ := rnkE_ex o n who inn goal o.length
  unfold ranksL
  rw [← h.is]
  exact h
theorem ranksL_len (o : List Int) (n : List (List Int)) (who : Int) (inn goal : List Int) : (ranksL o n who inn goal).length = o.length := (ranksL_is o n who inn goal).len

/-! ### ranks and rounds -/
theorem rnks_top {o : List Int} {n : List (List Int)} {who : Int} {inn goal : List Int} {m : Nat} : ∀ (k v : Nat), v < m → gi (rnks o n who inn goal m k) v ≤ (k : Int) ∧ -1 ≤ gi (rnks o n who inn goal m k) v
  | 0, v, hv => by
    rw [rnks]; unfold rnk0
    rw [fill_at hv]
    split
    · split <;> omega
    · omega
  | k + 1, v, hv => by
    have ih := rnks_top (o := o) (n := n) (who := who) (inn := inn) (goal := goal) k v hv
    rw [rnks]; unfold rnkS
    rw [fill_at hv]
    split
    · split <;> omega
    · omega
/-- what has a rank below the last round had it before the round -/
theorem rnks_old {o : List Int} {n : List (List Int)} {who : Int} {inn goal : List Int} {m k v : Nat} (hv : v < m) (h : gi (rnks o n who inn goal m (k + 1)) v ≤ (k : Int)) : gi (rnks o n who inn goal m k) v = gi (rnks o n who inn goal m (k + 1)) v := by
  rw [rnks] at h ⊢
  unfold rnkS at h ⊢
  rw [fill_at hv] at h ⊢
  split at h
  · split at h
    · omega
    · rename_i h1 h2
      rw [if_pos h1, if_neg h2]
  · rename_i h1
    rw [if_neg h1]
/-- what is still without a rank was not pulled in the round before -/
theorem rnks_unpulled {o : List Int} {n : List (List Int)} {who : Int} {inn goal : List Int} {m k v : Nat} (hv : v < m) (hi : hasL inn (v : Int) = true) (h : gi (rnks o n who inn goal m (k + 1)) v < 0) : pulledB o n who (mkM m inn) (rnks o n who inn goal m k) v = false := by
  rw [rnks] at h
  unfold rnkS at h
  rw [fill_at hv, if_pos hi] at h
  split at h
  · omega
  · rename_i h1
    unfold rnkC at h1
    rw [Bool.and_eq_true, decide_eq_true_iff] at h1
    cases hc : pulledB o n who (mkM m inn) (rnks o n who inn goal m k) v with
    | false => rfl
    | true => exact absurd ⟨h, hc⟩ h1
end Go.Proofs.Ytlmhhnplacejkaa
namespace Go.Proofs.Ytlmhhnplacejkaa
open Go.RowKit

set_option maxRecDepth 100000 in
set_option maxHeartbeats 400000 in
theorem l1Marks (n0 : Nat) (C : Option Addr) (m d : Nat) (s : List Int) (w : World) (B : Nat) (hB : B ≤ w.heap.size) (hb : RI w C m d s) (hs : setB s (n0 : Int) = true) (hn : n0 ≤ 1048576) :
    Calls Try.prog 169 #[.slice C m d, .int .i64 (n0 : Int)] w fun e w' => ∃ v, e = .returned v ∧ OB 4 w' B v (mkM n0 s) ∧ Below B w w' := by
  have hba := Below.refl w.heap.size w
  have hsz : w.heap.size = w.heap.size := rfl
  have b3 := hb.cap; have b4 := hb.top
  have HM := Lib.hid hb.len; have HS := Lib.hid hs; have HZ := Lib.hid hsz; clear hs hsz
  go_enter Try.func169, Try.ntmps169
  go_wp2_with (refine wpList_makeB rfl (.tmp 7) rfl _ n0 rfl hn ?_; intro w1 hown hb1; rw [HZ.out] at hown ⊢; replace hb1 := below_then hb1 hba.size hba; replace hown := hown.more (lo' := w.heap.size) (by omega); clear hba)
  go_loopw [6] (fun i wr => ∃ k : Nat, k ≤ m ∧ i = .int .i64 k ∧ OB 4 wr w.heap.size (.slice (some ⟨w.heap.size, 0, none⟩) n0 n0) (mkM n0 (s.take k)) ∧ Below w.heap.size w wr) (fun i _ => m - (intOf i).toNat)
  case atStart => exact ⟨0, Nat.zero_le _, rfl, by rw [List.take_zero, mkM_zero]; exact hown, hb1⟩
  case round =>
    obtain ⟨k, hk, rfl, ho, hbr⟩ := hrel
    by_cases hlt : k < m
    · obtain ⟨j, hj, hjn⟩ := set_nat HS.out (show k < s.length by rw [HM.out]; exact hlt)
      obtain ⟨bb, off, rfl, hc⟩ := (hb.keep (keeps_below hbr)).at_ hlt
      rw [hj] at hc
      have hcm := ho.at_ (i := j) (by rw [mkM_len]; exact hjn)
      have hfz := ho.hot (i := j) (by rw [mkM_len])
      have HX := Lib.hid (mkM_put (n := n0) (show k < s.length by rw [HM.out]; exact hlt) hj hjn)
      have HO := Lib.hid ho
      clear hj ho
      go_wp2
      go_roundw
      case rel => exact ⟨k + 1, by omega, by go_num, by rw [← HX.out]; exact HO.out.set_ (by rw [mkM_len]) true, below_set (by show w.heap.size ≤ w.heap.size; omega) hbr⟩
      case measure => simp [intOf]; omega
    · obtain rfl : k = m := by omega
      have HE := Lib.hid (show s.take k = s from List.take_of_length_le (by rw [HM.out]; omega))
      go_wp2
      go_ret
      exact ⟨_, rfl, by rw [← HE.out]; exact ho.more hB, hbr.mono hB⟩


set_option maxHeartbeats 400000 in
theorem l1Same (A B : Option Addr) (n m c d : Nat) (xs ys : List Int) (w : World) (ha : RI w A n c xs) (hb : RI w B m d ys) :
    Calls Try.prog 110 #[.slice A n c, .slice B m d] w fun e w' => e = .returned (.bool (eqL xs ys)) ∧ Qt w w' := by
  have b1 := ha.cap; have b2 := ha.top; have b3 := hb.cap; have b4 := hb.top
  by_cases hnm : n = m
  · subst hnm
    have hnn : ((n : Int) != (n : Int)) = false := by simp
    go_enter Try.func110, Try.ntmps110
    go_wp2
    go_loopw [5] (fun i wr => ∃ k : Nat, k ≤ n ∧ i = .int .i64 k ∧ (∀ j, j < k → gi xs j = gi ys j) ∧ ∃ q, wr = w.drewN q) (fun i _ => n - (intOf i).toNat)
    case atStart => exact ⟨0, Nat.zero_le _, rfl, by omega, 0, rfl⟩
    case round =>
      obtain ⟨k, hk, rfl, hall, q, rfl⟩ := hrel
      by_cases hlt : k < n
      · obtain ⟨b, off, rfl, hc1⟩ := ha.at_ hlt
        obtain ⟨b', off', rfl, hc2⟩ := hb.at_ hlt
        have hki : (k : Int) < (n : Int) := by omega
        have hk0 : (0 : Int) ≤ (k : Int) := by omega
        by_cases he : gi xs k = gi ys k
        · have H := Lib.hid he
          have hne : (gi xs k != gi ys k) = false := by simp [he]
          clear he
          go_wp2
          go_quiet (fail)
          go_wp2
          go_roundw
          case rel => exact ⟨k + 1, by omega, by go_num, all_succ hall H.out, _, rfl⟩
          case measure => simp [intOf]; omega
        · have H := Lib.hid he
          have hne : (gi xs k != gi ys k) = true := by simp [he]
          clear he
          go_wp2
          go_quiet (fail)
          go_wp2
          go_ret
          exact ⟨ret_b (eqL_ne H.out).symm, Qt.drew2 _ _⟩
      · go_wp2
        go_ret
        obtain rfl : k = n := by omega
        exact ⟨ret_b (eqL_of ha.1 hb.1 hall).symm, _, rfl⟩
  · have hnn : ((n : Int) != (m : Int)) = true := by simp; omega
    have H := Lib.hid hnm
    clear hnm
    go_enter Try.func110, Try.ntmps110
    go_wp2
    go_ret
    exact ⟨ret_b (eqL_len (by rw [ha.1, hb.1]; exact H.out)).symm, Qt.refl _⟩



theorem l1Max (x y : Int) (w : World) :
    Calls Try.prog 227 #[.int .i64 x, .int .i64 y] w fun e w' => e = .returned (.int .i64 (if y < x then x else y)) ∧ Qt w w' := by
  by_cases h : y < x
  · go_enter Try.func227, Try.ntmps227
    go_wp2
    go_ret
    exact ⟨rfl, Qt.refl _⟩
  · go_enter Try.func227, Try.ntmps227
    go_wp2
    go_ret
    exact ⟨rfl, Qt.refl _⟩

set_option maxRecDepth 100000 in
set_option maxHeartbeats 800000 in
theorem isPulled (A0 A1 D R : Option Addr) (n0 c0 n1 c1 d dr : Nat) (o : List Int) (n : List (List Int)) (who : Int) (v : Nat) (ms : List Bool) (rk : List Int) (w : World) (B : Nat) (hB : B ≤ w.heap.size) (ha : RI w A0 n0 c0 o) (hb : RII w A1 n1 c1 n) (hm : RB w D n0 d ms) (hr : RI w R n0 dr rk) (hf : fineAr o n) (hv : v < n0) :
    Calls Try.prog 170 #[.agg #[.slice A0 n0 c0, .slice A1 n1 c1], .int .i64 who, .slice D n0 d, .slice R n0 dr, .int .i64 (v : Int)] w fun e w' => e = .returned (.bool (pulledB o n who ms rk v)) ∧ Below B w w' := by
  have b1 := ha.cap; have b2 := ha.top; have b3 := hb.cap; have b4 := hb.top; have b5 := hm.cap; have b6 := hm.top; have b7 := hr.cap; have b8 := hr.top
  have HL := Lib.hid ha.len; have HM := Lib.hid hb.len
  obtain ⟨hf1, hf2, hf3, hf4⟩ := hf
  obtain ⟨_, ⟨hk1, hk2⟩, hset⟩ := hf4 v (by rw [HL.out]; exact hv)
  rw [HL.out] at hset hf3
  have hv1 : v < n1 := by rw [← HM.out, hf3]; exact hv
  have HSET := Lib.hid hset
  clear hf1 hf2 hf3 hf4 hset
  have hba : Below w.heap.size w (w.alloc (.cells #[.slice A0 n0 c0, .slice A1 n1 c1] 30)) := below_alloc (Nat.le_refl _) (Below.refl _ _)
  have q0 := (Box.new w 30 #[.slice A0 n0 c0, .slice A1 n1 c1]).d0
  have q1 := (Box.new w 30 #[.slice A0 n0 c0, .slice A1 n1 c1]).d1
  replace ha := ha.keep (keeps_below hba); replace hb := hb.keep (keeps_below hba); replace hm := hm.keep (keeps_below hba); replace hr := hr.keep (keeps_below hba)
  obtain ⟨ba, oa, rfl, hcA⟩ := ha.at_ hv
  obtain ⟨bn, on, An, nn, cn, rfl, hcN, rn⟩ := hb.at_ hv1
  have bn1 := rn.cap; have bn2 := rn.top
  have HN := Lib.hid rn.len
  rw [HN.out] at hk1 hk2
  have hvi : (v : Int) < (n0 : Int) := by omega
  have hvi1 : (v : Int) < (n1 : Int) := by omega
  go_enter Try.func170, Try.ntmps170
  go_wp2
  go_loopw [11, 12, 13, 22] (fun x y z i wr => ∃ (k : Nat) (p q r : Bool), k ≤ nn ∧ i = .int .i64 k ∧ x = .bool p ∧ y = .bool q ∧ z = .bool r ∧ p = pSome (gl n v) ms rk k ∧ q = pAll (gl n v) ms rk k ∧ r = pIn (gl n v) ms k ∧ ∃ t, wr = (w.alloc (.cells #[.slice (some ⟨ba, oa, none⟩) n0 c0, .slice (some ⟨bn, on, none⟩) n1 c1] 30)).drewN t) (fun _ _ _ i _ => nn - (intOf i).toNat)
  case atStart => exact ⟨0, false, true, false, Nat.zero_le _, rfl, rfl, rfl, rfl, rfl, rfl, rfl, 0, rfl⟩
  case round =>
    obtain ⟨k, p, q, r, hk, rfl, rfl, rfl, rfl, hp, hq, hr3, t, rfl⟩ := hrel
    have HP := Lib.hid hp; have HQ := Lib.hid hq; have HR := Lib.hid hr3; clear hp hq hr3
    by_cases hlt : k < nn
    · obtain ⟨j, hj, hjn⟩ := set_nat HSET.out (show k < (gl n v).length by rw [HN.out]; exact hlt)
      obtain ⟨bb, off, rfl, hc⟩ := rn.at_ hlt
      obtain ⟨bm, om, rfl, hcM⟩ := hm.at_ hjn
      obtain ⟨bR, oR, rfl, hcR⟩ := hr.at_ hjn
      have HJ := Lib.hid hj
      rw [hj] at hc
      have hjm : (j : Int) < (n0 : Int) := by omega
      have hki : (k : Int) < (nn : Int) := by omega
      have hk0 : (0 : Int) ≤ (k : Int) := by omega
      clear hj
      cases hg : gb ms j with
      | false =>
        rw [hg] at hcM
        have X1 := Lib.hid (pSome_out (rk := rk) HJ.out hg); have X2 := Lib.hid (pAll_out (rk := rk) HJ.out hg); have X3 := Lib.hid (show pIn (gl n v) ms (k + 1) = pIn (gl n v) ms k by rw [pIn_at HJ.out, hg, Bool.or_false])
        clear hg
        go_wp2
        go_roundw
        case rel => exact ⟨k + 1, p, q, r, by omega, by go_num, rfl, rfl, rfl, by rw [X1.out]; exact HP.out, by rw [X2.out]; exact HQ.out, by rw [X3.out]; exact HR.out, _, rfl⟩
        case measure => simp [intOf]; omega
      | true =>
        rw [hg] at hcM
        have X1 := Lib.hid (pSome_at (rk := rk) HJ.out hg); have X2 := Lib.hid (pAll_at (rk := rk) HJ.out hg); have X3 := Lib.hid (show pIn (gl n v) ms (k + 1) = true by rw [pIn_at HJ.out, hg, Bool.or_true])
        clear hg
        cases p <;> cases q <;> cases hd : decide (0 ≤ gi rk j)
        all_goals
          go_wp2
          go_roundw
          case rel => exact ⟨k + 1, _, _, _, by omega, by go_num, rfl, rfl, rfl, by rw [X1.out, ← HP.out, hd]; rfl, by rw [X2.out, ← HQ.out, hd]; rfl, by rw [X3.out], _, rfl⟩
          case measure => simp [intOf]; omega
    · obtain rfl : k = nn := by omega
      by_cases he : gi o v = who
      · have E := Lib.hid (show pulledB o n who ms rk v = p by unfold pulledB; rw [if_pos he, HN.out, HP.out])
        have h1 : (gi o v == who) = true := by simpa using he
        clear he
        go_wp2
        go_ret
        exact ⟨ret_b E.out.symm, below_drewN (hba.mono hB) _⟩
      · have E := Lib.hid (show pulledB o n who ms rk v = (r && q) by unfold pulledB; rw [if_neg he, HN.out, HQ.out, HR.out])
        have h1 : (gi o v == who) = false := by simpa using he
        clear he
        cases r
        · go_wp2
          go_ret
          exact ⟨ret_b E.out.symm, below_drewN (hba.mono hB) _⟩
        · go_wp2
          go_ret
          exact ⟨ret_b E.out.symm, below_drewN (hba.mono hB) _⟩

/-! ### the rank that those there are give -/
def lstUp (ns : List Int) (ins : List Bool) (rk : List Int) : Nat → Int
  | 0 => -1
  | k + 1 => if gb ins (gi ns k).toNat = true ∧ 0 ≤ gi rk (gi ns k).toNat ∧ (lstUp ns ins rk k < 0 ∨ gi rk (gi ns k).toNat < lstUp ns ins rk k) then gi rk (gi ns k).toNat else lstUp ns ins rk k
def mstUp (ns : List Int) (ins : List Bool) (rk : List Int) : Nat → Int
  | 0 => -1
  | k + 1 => if gb ins (gi ns k).toNat = true ∧ 0 ≤ gi rk (gi ns k).toNat then (if gi rk (gi ns k).toNat < mstUp ns ins rk k then mstUp ns ins rk k else gi rk (gi ns k).toNat) else mstUp ns ins rk k
def rankV (o : List Int) (n : List (List Int)) (who : Int) (ins : List Bool) (rk : List Int) (v : Nat) : Int :=
  if ¬ gi o v = who ∧ pAll (gl n v) ins rk (gl n v).length = false then -1
  else if lstUp (gl n v) ins rk (gl n v).length < 0 then -1
  else if gi o v = who then lstUp (gl n v) ins rk (gl n v).length + 1 else mstUp (gl n v) ins rk (gl n v).length + 1
theorem lstUp_at {ns : List Int} {ins : List Bool} {rk : List Int} {k j : Nat} (h : gi ns k = (j : Int)) : lstUp ns ins rk (k + 1) = if gb ins j = true ∧ 0 ≤ gi rk j ∧ (lstUp ns ins rk k < 0 ∨ gi rk j < lstUp ns ins rk k) then gi rk j else lstUp ns ins rk k := by rw [lstUp, h, Int.toNat_natCast]
theorem mstUp_at {ns : List Int} {ins : List Bool} {rk : List Int} {k j : Nat} (h : gi ns k = (j : Int)) : mstUp ns ins rk (k + 1) = if gb ins j = true ∧ 0 ≤ gi rk j then (if gi rk j < mstUp ns ins rk k then mstUp ns ins rk k else gi rk j) else mstUp ns ins rk k := by rw [mstUp, h, Int.toNat_natCast]
theorem lst_bound {ns : List Int} {ins : List Bool} {rk : List Int} {M : Int} (hM : -1 ≤ M) (h : ∀ u, gi rk u ≤ M) : ∀ k, -1 ≤ lstUp ns ins rk k ∧ lstUp ns ins rk k ≤ M
  | 0 => ⟨Int.le_refl _, hM⟩
  | k + 1 => by
    have ih := lst_bound (ns := ns) (ins := ins) hM h k
    have hu := h (gi ns k).toNat
    rw [lstUp]
    split <;> omega
theorem mst_bound {ns : List Int} {ins : List Bool} {rk : List Int} {M : Int} (hM : -1 ≤ M) (h : ∀ u, gi rk u ≤ M) : ∀ k, -1 ≤ mstUp ns ins rk k ∧ mstUp ns ins rk k ≤ M
  | 0 => ⟨Int.le_refl _, hM⟩
  | k + 1 => by
    have ih := mst_bound (ns := ns) (ins := ins) hM h k
    have hu := h (gi ns k).toNat
    rw [mstUp]
    split
    · split <;> omega
    · exact ih

set_option maxRecDepth 100000 in
set_option maxHeartbeats 1600000 in
theorem l3Rank (A0 A1 D R : Option Addr) (n0 c0 n1 c1 d dr : Nat) (o : List Int) (n : List (List Int)) (who : Int) (v : Nat) (ms : List Bool) (rk : List Int) (w : World) (B : Nat) (hB : B ≤ w.heap.size) (ha : RI w A0 n0 c0 o) (hb : RII w A1 n1 c1 n) (hm : RB w D n0 d ms) (hr : RI w R n0 dr rk) (hf : fineAr o n) (hv : v < n0) (hrk : ∀ u, gi rk u ≤ 256) :
    Calls Try.prog 213 #[.agg #[.slice A0 n0 c0, .slice A1 n1 c1], .int .i64 who, .slice D n0 d, .slice R n0 dr, .int .i64 (v : Int)] w fun e w' => e = .returned (.int .i64 (rankV o n who ms rk v)) ∧ Below B w w' := by
  have b1 := ha.cap; have b2 := ha.top; have b3 := hb.cap; have b4 := hb.top; have b5 := hm.cap; have b6 := hm.top; have b7 := hr.cap; have b8 := hr.top
  have HL := Lib.hid ha.len; have HM := Lib.hid hb.len
  have HRK := Lib.hid hrk
  clear hrk
  obtain ⟨hf1, hf2, hf3, hf4⟩ := hf
  obtain ⟨_, ⟨hk1, hk2⟩, hset⟩ := hf4 v (by rw [HL.out]; exact hv)
  rw [HL.out] at hset hf3
  have hv1 : v < n1 := by rw [← HM.out, hf3]; exact hv
  have HSET := Lib.hid hset
  clear hf1 hf2 hf3 hf4 hset
  have hba : Below w.heap.size w (w.alloc (.cells #[.slice A0 n0 c0, .slice A1 n1 c1] 30)) := below_alloc (Nat.le_refl _) (Below.refl _ _)
  have q0 := (Box.new w 30 #[.slice A0 n0 c0, .slice A1 n1 c1]).d0
  have q1 := (Box.new w 30 #[.slice A0 n0 c0, .slice A1 n1 c1]).d1
  replace ha := ha.keep (keeps_below hba); replace hb := hb.keep (keeps_below hba); replace hm := hm.keep (keeps_below hba); replace hr := hr.keep (keeps_below hba)
  obtain ⟨ba, oa, rfl, hcA⟩ := ha.at_ hv
  obtain ⟨bn, on, An, nn, cn, rfl, hcN, rn⟩ := hb.at_ hv1
  have bn1 := rn.cap; have bn2 := rn.top
  have HN := Lib.hid rn.len
  rw [HN.out] at hk1 hk2
  have hvi : (v : Int) < (n0 : Int) := by omega
  have hvi1 : (v : Int) < (n1 : Int) := by omega
  have HE := Lib.hid (show ∀ x, rankV o n who ms rk v = x ↔ (if ¬ gi o v = who ∧ pAll (gl n v) ms rk nn = false then -1 else if lstUp (gl n v) ms rk nn < 0 then -1 else if gi o v = who then lstUp (gl n v) ms rk nn + 1 else mstUp (gl n v) ms rk nn + 1) = x from fun x => by unfold rankV; rw [HN.out])
  obtain ⟨bo, hbo⟩ : ∃ b, (gi o v == who) = b := ⟨_, rfl⟩
  have hbo2 : (gi o v != who) = !bo := by rw [← hbo]; rfl
  have HBO := Lib.hid hbo
  go_enter Try.func213, Try.ntmps213
  go_wp2
  go_loopw [11, 12, 13] (fun x y i wr => ∃ (k : Nat) (p q : Int), k ≤ nn ∧ i = .int .i64 k ∧ x = .int .i64 p ∧ y = .int .i64 q ∧ p = lstUp (gl n v) ms rk k ∧ q = mstUp (gl n v) ms rk k ∧ (bo = false → pAll (gl n v) ms rk k = true) ∧ ∃ t, wr = (w.alloc (.cells #[.slice (some ⟨ba, oa, none⟩) n0 c0, .slice (some ⟨bn, on, none⟩) n1 c1] 30)).drewN t) (fun _ _ i _ => nn - (intOf i).toNat)
  case atStart => exact ⟨0, -1, -1, Nat.zero_le _, rfl, rfl, rfl, rfl, rfl, fun _ => rfl, 0, rfl⟩
  case round =>
    obtain ⟨k, p, q, hk, rfl, rfl, rfl, hp, hq, hall, t, rfl⟩ := hrel
    have hpb := lst_bound (ns := gl n v) (ins := ms) (rk := rk) (M := 256) (by omega) HRK.out k
    have hqb := mst_bound (ns := gl n v) (ins := ms) (rk := rk) (M := 256) (by omega) HRK.out k
    rw [← hp] at hpb
    rw [← hq] at hqb
    obtain ⟨hp1, hp2⟩ := hpb
    obtain ⟨hq1, hq2⟩ := hqb
    have HP := Lib.hid hp; have HQ := Lib.hid hq; have HA := Lib.hid hall; clear hp hq hall
    by_cases hlt : k < nn
    · obtain ⟨j, hj, hjn⟩ := set_nat HSET.out (show k < (gl n v).length by rw [HN.out]; exact hlt)
      obtain ⟨bb, off, rfl, hc⟩ := rn.at_ hlt
      obtain ⟨bm, om, rfl, hcM⟩ := hm.at_ hjn
      obtain ⟨bR, oR, rfl, hcR⟩ := hr.at_ hjn
      have HJ := Lib.hid hj
      rw [hj] at hc
      have hjm : (j : Int) < (n0 : Int) := by omega
      have hki : (k : Int) < (nn : Int) := by omega
      have hk0 : (0 : Int) ≤ (k : Int) := by omega
      have X1 := Lib.hid (lstUp_at (ins := ms) (rk := rk) HJ.out); have X2 := Lib.hid (mstUp_at (ins := ms) (rk := rk) HJ.out)
      clear hj
      cases hg : gb ms j with
      | false =>
        rw [hg] at hcM
        have HG := Lib.hid hg
        clear hg
        go_wp2
        go_roundw
        case rel => exact ⟨k + 1, p, q, by omega, by go_num, rfl, rfl, by rw [X1.out, if_neg (by rw [HG.out]; simp)]; exact HP.out, by rw [X2.out, if_neg (by rw [HG.out]; simp)]; exact HQ.out, fun h => by rw [pAll_out HJ.out HG.out]; exact HA.out h, _, rfl⟩
        case measure => simp [intOf]; omega
      | true =>
        rw [hg] at hcM
        have HG := Lib.hid hg
        clear hg
        by_cases hge : 0 ≤ gi rk j
        · have hd : decide (gi rk j < 0) = false := decide_eq_false (by omega)
          have hd2 : decide (0 ≤ gi rk j) = true := decide_eq_true hge
          have HAn := Lib.hid (show bo = false → pAll (gl n v) ms rk (k + 1) = true from fun h => by rw [pAll_at HJ.out HG.out, HA.out h, hd2]; rfl)
          have hmx : ∀ w', Calls Try.prog 227 #[.int .i64 q, .int .i64 (gi rk j)] w' fun e w'' => e = .returned (.int .i64 (if gi rk j < q then q else gi rk j)) ∧ Qt w' w'' := fun w' => l1Max _ _ _
          have HMX := Lib.hid hmx
          have X3 := Lib.hid (show mstUp (gl n v) ms rk (k + 1) = (if gi rk j < q then q else gi rk j) by rw [X2.out, if_pos ⟨HG.out, hge⟩, ← HQ.out])
          clear hmx
          by_cases hlo : p < 0
          · have hd3 : decide (p < 0) = true := decide_eq_true hlo
            have X4 := Lib.hid (show lstUp (gl n v) ms rk (k + 1) = gi rk j by rw [X1.out, if_pos ⟨HG.out, hge, .inl (by rw [← HP.out]; exact hlo)⟩])
            go_wp2_with fail
            refine (HMX.out _).mono ?_; rintro e w' ⟨rfl, q1, rfl⟩
            go_wp2
            go_roundw
            case rel => exact ⟨k + 1, _, _, by omega, by go_num, rfl, rfl, X4.out.symm, X3.out.symm, HAn.out, _, rfl⟩
            case measure => simp [intOf]; omega
          · have hd3 : decide (p < 0) = false := decide_eq_false hlo
            by_cases hlt2 : gi rk j < p
            · have hd4 : decide (gi rk j < p) = true := decide_eq_true hlt2
              have X4 := Lib.hid (show lstUp (gl n v) ms rk (k + 1) = gi rk j by rw [X1.out, if_pos ⟨HG.out, hge, .inr (by rw [← HP.out]; exact hlt2)⟩])
              go_wp2_with fail
              refine (HMX.out _).mono ?_; rintro e w' ⟨rfl, q1, rfl⟩
              go_wp2
              go_roundw
              case rel => exact ⟨k + 1, _, _, by omega, by go_num, rfl, rfl, X4.out.symm, X3.out.symm, HAn.out, _, rfl⟩
              case measure => simp [intOf]; omega
            · have hd4 : decide (gi rk j < p) = false := decide_eq_false hlt2
              have X4 := Lib.hid (show lstUp (gl n v) ms rk (k + 1) = p by rw [X1.out, if_neg (fun h => by rcases h.2.2 with h' | h' <;> rw [← HP.out] at h' <;> omega)]; exact HP.out.symm)
              go_wp2_with fail
              refine (HMX.out _).mono ?_; rintro e w' ⟨rfl, q1, rfl⟩
              go_wp2
              go_roundw
              case rel => exact ⟨k + 1, _, _, by omega, by go_num, rfl, rfl, X4.out.symm, X3.out.symm, HAn.out, _, rfl⟩
              case measure => simp [intOf]; omega
        · have hd : decide (gi rk j < 0) = true := decide_eq_true (by omega)
          have hd2 : decide (0 ≤ gi rk j) = false := decide_eq_false hge
          cases bo with
          | false =>
            have hne : ¬ gi o v = who := fun h => by rw [h] at hbo; simp at hbo
            have E := Lib.hid (show rankV o n who ms rk v = -1 from (HE.out _).2 (if_pos ⟨hne, by
              cases e : pAll (gl n v) ms rk nn with
              | false => rfl
              | true =>
                have := pAll_iff.1 e k hlt (by rw [HJ.out, Int.toNat_natCast]; exact HG.out)
                rw [HJ.out, Int.toNat_natCast] at this
                omega⟩))
            clear hne
            go_wp2
            go_ret
            exact ⟨ret_i E.out.symm, below_drewN (hba.mono hB) _⟩
          | true =>
            have X3 := Lib.hid (show mstUp (gl n v) ms rk (k + 1) = q by rw [X2.out, if_neg (fun h => hge h.2)]; exact HQ.out.symm)
            have X4 := Lib.hid (show lstUp (gl n v) ms rk (k + 1) = p by rw [X1.out, if_neg (fun h => hge h.2.1)]; exact HP.out.symm)
            go_wp2
            go_roundw
            case rel => exact ⟨k + 1, p, q, by omega, by go_num, rfl, rfl, X4.out.symm, X3.out.symm, (fun h => by cases h), _, rfl⟩
            case measure => simp [intOf]; omega
    · obtain rfl : k = nn := by omega
      have hne : ¬ (¬ gi o v = who ∧ pAll (gl n v) ms rk k = false) := fun h => by
        have hb : bo = false := by rw [← HBO.out]; simpa using h.1
        have := HA.out hb
        rw [h.2] at this; cases this
      by_cases hlo : p < 0
      · have hd3 : decide (p < 0) = true := decide_eq_true hlo
        have E := Lib.hid (show rankV o n who ms rk v = -1 from (HE.out _).2 (by rw [if_neg hne, if_pos (by rw [← HP.out]; exact hlo)]))
        clear hne
        go_wp2
        go_ret
        exact ⟨ret_i E.out.symm, below_drewN (hba.mono hB) _⟩
      · have hd3 : decide (p < 0) = false := decide_eq_false hlo
        have e1 : IntKind.i64.wrap (p + 1) = p + 1 := IntWalk.i64_in _ (by omega)
        have e2 : IntKind.i64.wrap (q + 1) = q + 1 := IntWalk.i64_in _ (by omega)
        cases bo with
        | true =>
          have hw : gi o v = who := by simpa using hbo
          have E := Lib.hid (show rankV o n who ms rk v = p + 1 from (HE.out _).2 (by rw [if_neg hne, if_neg (by rw [← HP.out]; exact hlo), if_pos hw, HP.out]))
          clear hne hw
          go_wp2
          go_ret
          exact ⟨ret_i E.out.symm, below_drewN (hba.mono hB) _⟩
        | false =>
          have hw : ¬ gi o v = who := by simpa using hbo
          have E := Lib.hid (show rankV o n who ms rk v = q + 1 from (HE.out _).2 (by rw [if_neg hne, if_neg (by rw [← HP.out]; exact hlo), if_neg hw, HQ.out]))
          clear hne hw
          go_wp2
          go_ret
          exact ⟨ret_i E.out.symm, below_drewN (hba.mono hB) _⟩
end Go.Proofs.Ytlmhhnplacejkaa
