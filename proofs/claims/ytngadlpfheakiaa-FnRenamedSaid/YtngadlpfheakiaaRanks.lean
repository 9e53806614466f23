/- Ranks towards a goal: what ranksIn and l3Ranks count. Plain. Ranks: isPulled, l3Rank, l1Marks, l1Same, l1Max, l3Ok. Ranks: spec.l3Ranks, impl.ranksIn. Ranks: spec.l3Ranks. -/
import Derived.Test.YtngadlpfheakiaaPlan
import Derived.Test.YtngadlpfheakiaaStay
import Derived.Test.YtngadlpfheakiaaAcc
import Derived.Test.YtngadlpfheakiaaCopy
import Derived.Deep.RegionHeld3
namespace Go.Proofs.Ytngadlpfheakiaa
open Go.RowKit

/-! ### is a vertex pulled to ranked ones -/
def pSome (ns : List Int) (ins : List Bool) (rk : List Int) : Nat → Bool
  | 0 => false
  | k + 1 => pSome ns ins rk k || (gb ins (gi ns k).toNat && decide (0 ≤ gi rk (gi ns k).toNat))
def pAll (ns : List Int) (ins : List Bool) (rk : List Int) : Nat → Bool
  | 0 => true
  | k + 1 => pAll ns ins rk k && (!gb ins (gi ns k).toNat || decide (0 ≤ gi rk (gi ns k).toNat))
def pIn (ns : List Int) (ins : List Bool) : Nat → Bool
  | 0 => false
  | k + 1 => pIn ns ins k || gb ins (gi ns k).toNat
def pulledB (o : List Int) (n : List (List Int)) (who : Int) (ins : List Bool) (rk : List Int) (v : Nat) : Bool :=
  if gi o v = who then pSome (gl n v) ins rk (gl n v).length else pIn (gl n v) ins (gl n v).length && pAll (gl n v) ins rk (gl n v).length
theorem pSome_out {ns : List Int} {ins : List Bool} {rk : List Int} {k j : Nat} (h : gi ns k = (j : Int)) (hg : gb ins j = false) : pSome ns ins rk (k + 1) = pSome ns ins rk k := by rw [pSome, h, Int.toNat_natCast, hg]; simp
theorem pAll_out {ns : List Int} {ins : List Bool} {rk : List Int} {k j : Nat} (h : gi ns k = (j : Int)) (hg : gb ins j = false) : pAll ns ins rk (k + 1) = pAll ns ins rk k := by rw [pAll, h, Int.toNat_natCast, hg]; simp
theorem pIn_at {ns : List Int} {ins : List Bool} {k j : Nat} (h : gi ns k = (j : Int)) : pIn ns ins (k + 1) = (pIn ns ins k || gb ins j) := by rw [pIn, h, Int.toNat_natCast]
theorem pSome_at {ns : List Int} {ins : List Bool} {rk : List Int} {k j : Nat} (h : gi ns k = (j : Int)) (hg : gb ins j = true) : pSome ns ins rk (k + 1) = (pSome ns ins rk k || decide (0 ≤ gi rk j)) := by rw [pSome, h, Int.toNat_natCast, hg]; simp
theorem pAll_at {ns : List Int} {ins : List Bool} {rk : List Int} {k j : Nat} (h : gi ns k = (j : Int)) (hg : gb ins j = true) : pAll ns ins rk (k + 1) = (pAll ns ins rk k && decide (0 ≤ gi rk j)) := by rw [pAll, h, Int.toNat_natCast, hg]; simp
/-! ### a list into which the elements of a set are written -/
def hasFill (f g : Nat → Int) (xs : List Int) (j n : Nat) : List Int := fill (fun v => if hasL (xs.take j) (v : Int) = true then f v else g v) n
theorem hasFill_len (f g : Nat → Int) (xs : List Int) (j n : Nat) : (hasFill f g xs j n).length = n := fill_len _ _
theorem hasFill_zero (f g : Nat → Int) (xs : List Int) (n : Nat) : hasFill f g xs 0 n = fill g n := by
  unfold hasFill
  exact congrArg (fun h => fill h n) (funext fun v => by rw [List.take_zero, if_neg (by simp [hasL])])
theorem hasFill_step {f g : Nat → Int} {xs : List Int} {j n u : Nat} (hj : j < xs.length) (hu : gi xs j = (u : Int)) (hn : u < n) : (hasFill f g xs j n).set u (f u) = hasFill f g xs (j + 1) n := by
  refine gi_ext (by simp [hasFill_len]) fun v hv => ?_
  rw [List.length_set, hasFill_len] at hv
  rw [gi_set (by rw [hasFill_len]; exact hn)]
  unfold hasFill
  rw [fill_at hv, fill_at hv, take_gi hj, hu]
  by_cases e : u = v
  · subst e
    rw [if_pos rfl, if_pos (by simp [hasL])]
  · rw [if_neg e]
    have : hasL (xs.take j ++ [(u : Int)]) (v : Int) = hasL (xs.take j) (v : Int) := by
      unfold hasL
      refine decide_eq_decide.2 ?_
      simp only [List.mem_append, List.mem_singleton]
      constructor
      · rintro (h | h)
        · exact h
        · omega
      · exact .inl
    rw [this]
theorem hasFill_skip {f g : Nat → Int} {xs : List Int} {j n u : Nat} (hj : j < xs.length) (hu : gi xs j = (u : Int)) (hs : f u = g u) : hasFill f g xs (j + 1) n = hasFill f g xs j n := by
  unfold hasFill
  congr 1
  funext v
  rw [take_gi hj, hu]
  by_cases e : u = v
  · subst e
    rw [if_pos (by simp [hasL])]
    split
    · rfl
    · exact hs
  · have : hasL (xs.take j ++ [(u : Int)]) (v : Int) = hasL (xs.take j) (v : Int) := by
      unfold hasL
      refine decide_eq_decide.2 ?_
      simp only [List.mem_append, List.mem_singleton]
      constructor
      · rintro (h | h)
        · exact h
        · omega
      · exact .inl
    rw [this]
theorem hasFill_all {f g : Nat → Int} {xs : List Int} {n m : Nat} (h : xs.length ≤ m) : hasFill f g xs m n = fill (fun v => if hasL xs (v : Int) = true then f v else g v) n := by
  unfold hasFill
  rw [List.take_of_length_le h]

/-! ### the rounds -/
def goalF (_goal : List Int) (ins : List Bool) (v : Nat) : Int := if gb ins v = true then 0 else -1
def rnk0 (ins : List Bool) (goal : List Int) (m : Nat) : List Int := fill (fun v => if hasL goal (v : Int) = true then (if gb ins v = true then 0 else -1) else -1) m
def rnkC (o : List Int) (n : List (List Int)) (who : Int) (ins : List Bool) (R : List Int) (v : Nat) : Bool := decide (gi R v < 0) && pulledB o n who ins R v
def rnkS (o : List Int) (n : List (List Int)) (who : Int) (inn : List Int) (ins : List Bool) (R : List Int) (k : Nat) (m : Nat) : List Int := fill (fun v => if hasL inn (v : Int) = true then (if rnkC o n who ins R v = true then (k : Int) else gi R v) else gi R v) m
def rnks (o : List Int) (n : List (List Int)) (who : Int) (inn goal : List Int) (m : Nat) : Nat → List Int
  | 0 => rnk0 (mkM m inn) goal m
  | k + 1 => rnkS o n who inn (mkM m inn) (rnks o n who inn goal m k) (k + 1) m
theorem rnks_len (o : List Int) (n : List (List Int)) (who : Int) (inn goal : List Int) (m k : Nat) : (rnks o n who inn goal m k).length = m := by
  cases k <;> exact fill_len _ _
/-- no vertex comes in with the next round -/
def rnkEnd (o : List Int) (n : List (List Int)) (who : Int) (inn : List Int) (R : List Int) (m : Nat) : Prop := ∀ v, v < m → hasL inn (v : Int) = true → rnkC o n who (mkM m inn) R v = false
theorem rnkS_end {o : List Int} {n : List (List Int)} {who : Int} {inn : List Int} {R : List Int} {m : Nat} (hl : R.length = m) (h : rnkEnd o n who inn R m) (k : Nat) : rnkS o n who inn (mkM m inn) R k m = R := by
  refine gi_ext (by unfold rnkS; rw [fill_len, hl]) fun v hv => ?_
  unfold rnkS at hv ⊢
  rw [fill_len] at hv
  rw [fill_at hv]
  split
  · rename_i hi
    rw [h v hv hi]; rfl
  · rfl
def isRnk (o : List Int) (n : List (List Int)) (who : Int) (inn goal : List Int) (m : Nat) (R : List Int) : Prop := ∃ k, R = rnks o n who inn goal m k ∧ rnkEnd o n who inn R m
theorem rnks_fix {o : List Int} {n : List (List Int)} {who : Int} {inn goal : List Int} {m k : Nat} (h : rnkEnd o n who inn (rnks o n who inn goal m k) m) : ∀ d, rnks o n who inn goal m (k + d) = rnks o n who inn goal m k
  | 0 => rfl
  | d + 1 => by rw [← Nat.add_assoc, rnks, rnks_fix h d, rnkS_end (rnks_len _ _ _ _ _ _ _) h]
theorem isRnk.eq {o : List Int} {n : List (List Int)} {who : Int} {inn goal : List Int} {m : Nat} {r r' : List Int} (h : isRnk o n who inn goal m r) (h' : isRnk o n who inn goal m r') : r = r' := by
  obtain ⟨t, rfl, hf⟩ := h
  obtain ⟨t', rfl, hf'⟩ := h'
  rcases Nat.le_total t t' with hl | hl
  · have := rnks_fix hf (t' - t)
    rw [show t + (t' - t) = t' from by omega] at this
    exact this.symm
  · have := rnks_fix hf' (t - t')
    rw [show t' + (t - t') = t from by omega] at this
    exact this
noncomputable def rankE (o : List Int) (n : List (List Int)) (who : Int) (inn goal : List Int) (m : Nat) : List Int := @Classical.epsilon _ ⟨[]⟩ (isRnk o n who inn goal m)
theorem isRnk.is {o : List Int} {n : List (List Int)} {who : Int} {inn goal : List Int} {m : Nat} {r : List Int} (h : isRnk o n who inn goal m r) : r = rankE o n who inn goal m := h.eq (@Classical.epsilon_spec _ (isRnk o n who inn goal m) ⟨r, h⟩)
theorem isRnk.len {o : List Int} {n : List (List Int)} {who : Int} {inn goal : List Int} {m : Nat} {r : List Int} (h : isRnk o n who inn goal m r) : r.length = m := by
  obtain ⟨t, rfl, _⟩ := h
  exact rnks_len _ _ _ _ _ _ _

/-! ### how many have no rank -/
theorem negs_fill (f : Nat → Int) (n : Nat) : negs (fill f n) = (List.range n).countP fun v => decide (f v < 0) := by
  unfold negs fill
  rw [List.countP_map]; rfl
theorem list_fill {L : List Int} {n : Nat} (h : L.length = n) : L = fill (gi L) n := gi_ext (by rw [fill_len, h]) fun j hj => by rw [fill_at (by omega)]
theorem countP_lt {p q : Nat → Bool} {l : List Nat} (h : ∀ x, x ∈ l → q x = true → p x = true) {y : Nat} (hy : y ∈ l) (hp : p y = true) (hq : q y = false) : l.countP q < l.countP p := by
  induction l with
  | nil => cases hy
  | cons a l ih =>
    rw [List.countP_cons, List.countP_cons]
    have hle : l.countP q ≤ l.countP p := List.countP_mono_left fun x hx => h x (by simp [hx])
    rcases List.mem_cons.1 hy with rfl | hy'
    · rw [hp, hq]; simp; omega
    · have := ih (fun x hx => h x (by simp [hx])) hy'
      have h1 : (if q a = true then 1 else 0) ≤ (if p a = true then 1 else 0) := by
        have := h a (by simp)
        cases hqa : q a with
        | false => simp
        | true => rw [this hqa]; simp
      omega
theorem rnkS_negs {o : List Int} {n : List (List Int)} {who : Int} {inn : List Int} {R : List Int} {m k : Nat} (hl : R.length = m) {v : Nat} (hv : v < m) (hi : hasL inn (v : Int) = true) (hc : rnkC o n who (mkM m inn) R v = true) : negs (rnkS o n who inn (mkM m inn) R k m) < negs R := by
  unfold rnkS
  rw [negs_fill]
  conv => rhs; rw [list_fill hl, negs_fill]
  have hneg : ∀ x, rnkC o n who (mkM m inn) R x = true → gi R x < 0 := fun x h => by
    unfold rnkC at h
    rw [Bool.and_eq_true, decide_eq_true_iff] at h
    exact h.1
  refine countP_lt (fun x _ hx => ?_) (List.mem_range.2 hv) (decide_eq_true (hneg v hc)) ?_
  · rw [decide_eq_true_iff] at hx ⊢
    by_cases h1 : hasL inn (x : Int) = true
    · rw [if_pos h1] at hx
      by_cases h2 : rnkC o n who (mkM m inn) R x = true
      · exact hneg x h2
      · rw [if_neg h2] at hx; exact hx
    · rw [if_neg h1] at hx; exact hx
  · rw [if_pos hi, if_pos hc]
    exact decide_eq_false (by omega)
theorem rnkE_ex (o : List Int) (n : List (List Int)) (who : Int) (inn goal : List Int) (m : Nat) : ∃ r, isRnk o n who inn goal m r := by
  have key : ∀ c t, negs (rnks o n who inn goal m t) ≤ c → ∃ r, isRnk o n who inn goal m r := by
    intro c
    induction c with
    | zero =>
      intro t ht
      refine ⟨_, t, rfl, fun v hv hi => ?_⟩
      cases hc : rnkC o n who (mkM m inn) (rnks o n who inn goal m t) v with
      | false => rfl
      | true =>
        have := rnkS_negs (k := 0) (rnks_len o n who inn goal m t) hv hi hc
        omega
    | succ c ih =>
      intro t ht
      by_cases e : rnkEnd o n who inn (rnks o n who inn goal m t) m
      · exact ⟨_, t, rfl, e⟩
      · have hx : ∃ v, v < m ∧ hasL inn (v : Int) = true ∧ rnkC o n who (mkM m inn) (rnks o n who inn goal m t) v = true := by
          refine Classical.byContradiction fun hne => e fun v hv hi => ?_
          cases hc : rnkC o n who (mkM m inn) (rnks o n who inn goal m t) v with
          | false => rfl
          | true => exact absurd ⟨v, hv, hi, hc⟩ hne
        obtain ⟨v, hv, hi, hc⟩ := hx
        refine ih (t + 1) ?_
        have := rnkS_negs (k := t + 1) (rnks_len o n who inn goal m t) hv hi hc
        rw [rnks]
        omega
  exact key _ 0 (Nat.le_refl _)
noncomputable def ranksL (o : List Int) (n : List (List Int)) (who : Int) (inn goal : List Int) : List Int := rankE o n who inn goal o.length
theorem ranksL_is (o : List Int) (n : List (List Int)) (who : Int) (inn goal : List Int) : isRnk o n who inn goal o.length (ranksL o n who inn goal) := by
  obtain ⟨r, h⟩ := rnkE_ex o n who inn goal o.length
  unfold ranksL
  rw [← h.is]
  exact h
theorem ranksL_len (o : List Int) (n : List (List Int)) (who : Int) (inn goal : List Int) : (ranksL o n who inn goal).length = o.length := (ranksL_is o n who inn goal).len

/-! ### ranks and rounds -/
end Go.Proofs.Ytngadlpfheakiaa
namespace Go.Proofs.Ytngadlpfheakiaa
open Go.RowKit

set_option maxRecDepth 100000 in
set_option maxHeartbeats 400000 in
theorem l1Marks (n0 : Nat) (C : Option Addr) (m d : Nat) (s : List Int) (w : World) (B : Nat) (hB : B ≤ w.heap.size) (hb : RI w C m d s) (hs : setB s (n0 : Int) = true) (hn : n0 ≤ 1048576) :
    Calls Try.prog 119 #[.slice C m d, .int .i64 (n0 : Int)] w fun e w' => ∃ v, e = .returned v ∧ OB 4 w' B v (mkM n0 s) ∧ Below B w w' := by
  have hba := Below.refl w.heap.size w
  have hsz : w.heap.size = w.heap.size := rfl
  have b3 := hb.cap; have b4 := hb.top
  have HM := Lib.hid hb.len; have HS := Lib.hid hs; have HZ := Lib.hid hsz; clear hs hsz
  go_enter Try.func119, Try.ntmps119
  go_wp2_with (refine wpList_makeB rfl (.tmp 7) rfl _ n0 rfl hn ?_; intro w1 hown hb1; rw [HZ.out] at hown ⊢; replace hb1 := below_then hb1 hba.size hba; replace hown := hown.more (lo' := w.heap.size) (by omega); clear hba)
  go_loopw [6] (fun i wr => ∃ k : Nat, k ≤ m ∧ i = .int .i64 k ∧ OB 4 wr w.heap.size (.slice (some ⟨w.heap.size, 0, none⟩) n0 n0) (mkM n0 (s.take k)) ∧ Below w.heap.size w wr) (fun i _ => m - (intOf i).toNat)
  case atStart => exact ⟨0, Nat.zero_le _, rfl, by rw [List.take_zero, mkM_zero]; exact hown, hb1⟩
  case round =>
    obtain ⟨k, hk, rfl, ho, hbr⟩ := hrel
    by_cases hlt : k < m
    · obtain ⟨j, hj, hjn⟩ := set_nat HS.out (show k < s.length by rw [HM.out]; exact hlt)
      obtain ⟨bb, off, rfl, hc⟩ := (hb.keep (keeps_below hbr)).at_ hlt
      rw [hj] at hc
      have hcm := ho.at_ (i := j) (by rw [mkM_len]; exact hjn)
      have hfz := ho.hot (i := j) (by rw [mkM_len])
      have HX := Lib.hid (mkM_put (n := n0) (show k < s.length by rw [HM.out]; exact hlt) hj hjn)
      have HO := Lib.hid ho
      clear hj ho
      go_wp2
      go_roundw
      case rel => exact ⟨k + 1, by omega, by go_num, by rw [← HX.out]; exact HO.out.set_ (by rw [mkM_len]) true, below_set (by show w.heap.size ≤ w.heap.size; omega) hbr⟩
      case measure => simp [intOf]; omega
    · obtain rfl : k = m := by omega
      have HE := Lib.hid (show s.take k = s from List.take_of_length_le (by rw [HM.out]; omega))
      go_wp2
      go_ret
      exact ⟨_, rfl, by rw [← HE.out]; exact ho.more hB, hbr.mono hB⟩


set_option maxHeartbeats 400000 in
theorem l1Same (A B : Option Addr) (n m c d : Nat) (xs ys : List Int) (w : World) (ha : RI w A n c xs) (hb : RI w B m d ys) :
    Calls Try.prog 55 #[.slice A n c, .slice B m d] w fun e w' => e = .returned (.bool (eqL xs ys)) ∧ Qt w w' := by
  have b1 := ha.cap; have b2 := ha.top; have b3 := hb.cap; have b4 := hb.top
  by_cases hnm : n = m
  · subst hnm
    have hnn : ((n : Int) != (n : Int)) = false := by simp
    go_enter Try.func55, Try.ntmps55
    go_wp2
    go_loopw [5] (fun i wr => ∃ k : Nat, k ≤ n ∧ i = .int .i64 k ∧ (∀ j, j < k → gi xs j = gi ys j) ∧ ∃ q, wr = w.drewN q) (fun i _ => n - (intOf i).toNat)
    case atStart => exact ⟨0, Nat.zero_le _, rfl, by omega, 0, rfl⟩
    case round =>
      obtain ⟨k, hk, rfl, hall, q, rfl⟩ := hrel
      by_cases hlt : k < n
      · obtain ⟨b, off, rfl, hc1⟩ := ha.at_ hlt
        obtain ⟨b', off', rfl, hc2⟩ := hb.at_ hlt
        have hki : (k : Int) < (n : Int) := by omega
        have hk0 : (0 : Int) ≤ (k : Int) := by omega
        by_cases he : gi xs k = gi ys k
        · have H := Lib.hid he
          have hne : (gi xs k != gi ys k) = false := by simp [he]
          clear he
          go_wp2
          go_quiet (fail)
          go_wp2
          go_roundw
          case rel => exact ⟨k + 1, by omega, by go_num, all_succ hall H.out, _, rfl⟩
          case measure => simp [intOf]; omega
        · have H := Lib.hid he
          have hne : (gi xs k != gi ys k) = true := by simp [he]
          clear he
          go_wp2
          go_quiet (fail)
          go_wp2
          go_ret
          exact ⟨ret_b (eqL_ne H.out).symm, Qt.drew2 _ _⟩
      · go_wp2
        go_ret
        obtain rfl : k = n := by omega
        exact ⟨ret_b (eqL_of ha.1 hb.1 hall).symm, _, rfl⟩
  · have hnn : ((n : Int) != (m : Int)) = true := by simp; omega
    have H := Lib.hid hnm
    clear hnm
    go_enter Try.func55, Try.ntmps55
    go_wp2
    go_ret
    exact ⟨ret_b (eqL_len (by rw [ha.1, hb.1]; exact H.out)).symm, Qt.refl _⟩



theorem l1Max (x y : Int) (w : World) :
    Calls Try.prog 179 #[.int .i64 x, .int .i64 y] w fun e w' => e = .returned (.int .i64 (if y < x then x else y)) ∧ Qt w w' := by
  by_cases h : y < x
  · go_enter Try.func179, Try.ntmps179
    go_wp2
    go_ret
    exact ⟨rfl, Qt.refl _⟩
  · go_enter Try.func179, Try.ntmps179
    go_wp2
    go_ret
    exact ⟨rfl, Qt.refl _⟩

set_option maxRecDepth 100000 in
set_option maxHeartbeats 800000 in
theorem isPulled (A0 A1 D R : Option Addr) (n0 c0 n1 c1 d dr : Nat) (o : List Int) (n : List (List Int)) (who : Int) (v : Nat) (ms : List Bool) (rk : List Int) (w : World) (B : Nat) (hB : B ≤ w.heap.size) (ha : RI w A0 n0 c0 o) (hb : RII w A1 n1 c1 n) (hm : RB w D n0 d ms) (hr : RI w R n0 dr rk) (hf : fineAr o n) (hv : v < n0) :
    Calls Try.prog 120 #[.agg #[.slice A0 n0 c0, .slice A1 n1 c1], .int .i64 who, .slice D n0 d, .slice R n0 dr, .int .i64 (v : Int)] w fun e w' => e = .returned (.bool (pulledB o n who ms rk v)) ∧ Below B w w' := by
  have b1 := ha.cap; have b2 := ha.top; have b3 := hb.cap; have b4 := hb.top; have b5 := hm.cap; have b6 := hm.top; have b7 := hr.cap; have b8 := hr.top
  have HL := Lib.hid ha.len; have HM := Lib.hid hb.len
  obtain ⟨hf1, hf2, hf3, hf4⟩ := hf
  obtain ⟨_, ⟨hk1, hk2⟩, hset⟩ := hf4 v (by rw [HL.out]; exact hv)
  rw [HL.out] at hset hf3
  have hv1 : v < n1 := by rw [← HM.out, hf3]; exact hv
  have HSET := Lib.hid hset
  clear hf1 hf2 hf3 hf4 hset
  have hba : Below w.heap.size w (w.alloc (.cells #[.slice A0 n0 c0, .slice A1 n1 c1] 30)) := below_alloc (Nat.le_refl _) (Below.refl _ _)
  have q0 := (Box.new w 30 #[.slice A0 n0 c0, .slice A1 n1 c1]).d0
  have q1 := (Box.new w 30 #[.slice A0 n0 c0, .slice A1 n1 c1]).d1
  replace ha := ha.keep (keeps_below hba); replace hb := hb.keep (keeps_below hba); replace hm := hm.keep (keeps_below hba); replace hr := hr.keep (keeps_below hba)
  obtain ⟨ba, oa, rfl, hcA⟩ := ha.at_ hv
  obtain ⟨bn, on, An, nn, cn, rfl, hcN, rn⟩ := hb.at_ hv1
  have bn1 := rn.cap; have bn2 := rn.top
  have HN := Lib.hid rn.len
  rw [HN.out] at hk1 hk2
  have hvi : (v : Int) < (n0 : Int) := by omega
  have hvi1 : (v : Int) < (n1 : Int) := by omega
  go_enter Try.func120, Try.ntmps120
  go_wp2
  go_loopw [11, 12, 13, 22] (fun x y z i wr => ∃ (k : Nat) (p q r : Bool), k ≤ nn ∧ i = .int .i64 k ∧ x = .bool p ∧ y = .bool q ∧ z = .bool r ∧ p = pSome (gl n v) ms rk k ∧ q = pAll (gl n v) ms rk k ∧ r = pIn (gl n v) ms k ∧ ∃ t, wr = (w.alloc (.cells #[.slice (some ⟨ba, oa, none⟩) n0 c0, .slice (some ⟨bn, on, none⟩) n1 c1] 30)).drewN t) (fun _ _ _ i _ => nn - (intOf i).toNat)
  case atStart => exact ⟨0, false, true, false, Nat.zero_le _, rfl, rfl, rfl, rfl, rfl, rfl, rfl, 0, rfl⟩
  case round =>
    obtain ⟨k, p, q, r, hk, rfl, rfl, rfl, rfl, hp, hq, hr3, t, rfl⟩ := hrel
    have HP := Lib.hid hp; have HQ := Lib.hid hq; have HR := Lib.hid hr3; clear hp hq hr3
    by_cases hlt : k < nn
    · obtain ⟨j, hj, hjn⟩ := set_nat HSET.out (show k < (gl n v).length by rw [HN.out]; exact hlt)
      obtain ⟨bb, off, rfl, hc⟩ := rn.at_ hlt
      obtain ⟨bm, om, rfl, hcM⟩ := hm.at_ hjn
      obtain ⟨bR, oR, rfl, hcR⟩ := hr.at_ hjn
      have HJ := Lib.hid hj
      rw [hj] at hc
      have hjm : (j : Int) < (n0 : Int) := by omega
      have hki : (k : Int) < (nn : Int) := by omega
      have hk0 : (0 : Int) ≤ (k : Int) := by omega
      clear hj
      cases hg : gb ms j with
      | false =>
        rw [hg] at hcM
        have X1 := Lib.hid (pSome_out (rk := rk) HJ.out hg); have X2 := Lib.hid (pAll_out (rk := rk) HJ.out hg); have X3 := Lib.hid (show pIn (gl n v) ms (k + 1) = pIn (gl n v) ms k by rw [pIn_at HJ.out, hg, Bool.or_false])
        clear hg
        go_wp2
        go_roundw
        case rel => exact ⟨k + 1, p, q, r, by omega, by go_num, rfl, rfl, rfl, by rw [X1.out]; exact HP.out, by rw [X2.out]; exact HQ.out, by rw [X3.out]; exact HR.out, _, rfl⟩
        case measure => simp [intOf]; omega
      | true =>
        rw [hg] at hcM
        have X1 := Lib.hid (pSome_at (rk := rk) HJ.out hg); have X2 := Lib.hid (pAll_at (rk := rk) HJ.out hg); have X3 := Lib.hid (show pIn (gl n v) ms (k + 1) = true by rw [pIn_at HJ.out, hg, Bool.or_true])
        clear hg
        cases p <;> cases q <;> cases hd : decide (0 ≤ gi rk j)
        all_goals
          go_wp2
          go_roundw
          case rel => exact ⟨k + 1, _, _, _, by omega, by go_num, rfl, rfl, rfl, by rw [X1.out, ← HP.out, hd]; rfl, by rw [X2.out, ← HQ.out, hd]; rfl, by rw [X3.out], _, rfl⟩
          case measure => simp [intOf]; omega
    · obtain rfl : k = nn := by omega
      by_cases he : gi o v = who
      · have E := Lib.hid (show pulledB o n who ms rk v = p by unfold pulledB; rw [if_pos he, HN.out, HP.out])
        have h1 : (gi o v == who) = true := by simpa using he
        clear he
        go_wp2
        go_ret
        exact ⟨ret_b E.out.symm, below_drewN (hba.mono hB) _⟩
      · have E := Lib.hid (show pulledB o n who ms rk v = (r && q) by unfold pulledB; rw [if_neg he, HN.out, HQ.out, HR.out])
        have h1 : (gi o v == who) = false := by simpa using he
        clear he
        cases r
        · go_wp2
          go_ret
          exact ⟨ret_b E.out.symm, below_drewN (hba.mono hB) _⟩
        · go_wp2
          go_ret
          exact ⟨ret_b E.out.symm, below_drewN (hba.mono hB) _⟩

/-! ### the rank that those there are give -/
end Go.Proofs.Ytngadlpfheakiaa
namespace Go.Proofs.Ytngadlpfheakiaa
open Go.RowKit

theorem rnk0_negs (o : List Int) (n : List (List Int)) (who : Int) (inn goal : List Int) (m : Nat) : negs (rnks o n who inn goal m 0) ≤ m := by
  have := negs_le (rnks o n who inn goal m 0)
  rw [rnks_len] at this
  exact this
/-- what the loop over 'in' of impl finds -/
def fndUp (o : List Int) (n : List (List Int)) (who : Int) (inn : List Int) (m : Nat) (R : List Int) (k : Nat) : List Int := pick (fun i => rnkC o n who (mkM m inn) R (gi inn i).toNat) (gi inn) k
theorem fnd_has {o : List Int} {n : List (List Int)} {who : Int} {inn : List Int} {m : Nat} {R : List Int} {v : Nat} : hasL (fndUp o n who inn m R inn.length) (v : Int) = (hasL inn (v : Int) && rnkC o n who (mkM m inn) R v) := by
  cases hc : rnkC o n who (mkM m inn) R v with
  | true =>
    rw [Bool.and_true]
    unfold hasL
    refine decide_eq_decide.2 ⟨fun h => ?_, fun h => ?_⟩
    · obtain ⟨i, hi, _, h2⟩ := mem_pick.1 h
      rw [← h2]; exact gi_mem hi
    · obtain ⟨i, hi, h1⟩ := mem_gi h
      exact mem_pick.2 ⟨i, hi, by rw [h1, Int.toNat_natCast]; exact hc, h1⟩
  | false =>
    rw [Bool.and_false]
    unfold hasL
    refine decide_eq_false fun h => ?_
    obtain ⟨i, hi, h1, h2⟩ := mem_pick.1 h
    rw [h2, Int.toNat_natCast, hc] at h1
    cases h1
theorem fnd_all {o : List Int} {n : List (List Int)} {who : Int} {inn : List Int} {m : Nat} {R : List Int} {k : Nat} : fill (fun v => if hasL (fndUp o n who inn m R inn.length) (v : Int) = true then (k : Int) else gi R v) m = rnkS o n who inn (mkM m inn) R k m := by
  unfold rnkS
  refine congrArg (fun f => fill f m) (funext fun v => ?_)
  rw [fnd_has]
  cases h1 : hasL inn (v : Int) <;> cases h2 : rnkC o n who (mkM m inn) R v <;> simp
theorem fnd_end {o : List Int} {n : List (List Int)} {who : Int} {inn : List Int} {m : Nat} {R : List Int} (h : (fndUp o n who inn m R inn.length).length = 0) : rnkEnd o n who inn R m := fun v hv hi => by
  have e : hasL (fndUp o n who inn m R inn.length) (v : Int) = false := by
    rw [List.eq_nil_of_length_eq_zero h]; simp [hasL]
  rw [fnd_has, hi, Bool.true_and] at e
  exact e
theorem fnd_some {o : List Int} {n : List (List Int)} {who : Int} {inn : List Int} {m : Nat} {R : List Int} (hs : setB inn (m : Int) = true) {j : Nat} (hj : j < (fndUp o n who inn m R inn.length).length) : ∃ u : Nat, gi (fndUp o n who inn m R inn.length) j = (u : Int) ∧ u < m ∧ hasL inn (u : Int) = true ∧ rnkC o n who (mkM m inn) R u = true := by
  obtain ⟨i, hi, h1, h2⟩ := mem_pick.1 (gi_mem hj)
  obtain ⟨u, hu, hum⟩ := set_nat hs hi
  rw [hu, Int.toNat_natCast] at h1
  exact ⟨u, by rw [← hu]; exact h2.symm, hum, decide_eq_true (by rw [← hu]; exact gi_mem hi), h1⟩
set_option maxRecDepth 100000 in
set_option maxHeartbeats 3200000 in
theorem ranksIn (A0 A1 C1 C2 : Option Addr) (n0 c0 n1 c1 k1 d1 k2 d2 : Nat) (o : List Int) (n : List (List Int)) (who : Int) (inn goal : List Int) (w : World) (B : Nat) (hB : B ≤ w.heap.size) (ha : RI w A0 n0 c0 o) (hb : RII w A1 n1 c1 n) (hi : RI w C1 k1 d1 inn) (hg : RI w C2 k2 d2 goal) (hf : fineAr o n) (hsi : setB inn o.length = true) (hsg : setB goal o.length = true) :
    Calls Try.prog 65 #[.agg #[.slice A0 n0 c0, .slice A1 n1 c1], .int .i64 who, .slice C1 k1 d1, .slice C2 k2 d2] w fun e w' => ∃ v, e = .returned v ∧ OI 2 w' B v (ranksL o n who inn goal) ∧ Below B w w' := by
  have HL := Lib.hid ha.len; have HK1 := Lib.hid hi.len; have HK2 := Lib.hid hg.len
  have hm0 : 0 < n0 := by have := hf.1; rw [HL.out] at this; omega
  have hm1 : n0 ≤ 256 := by have := hf.2.1; rw [HL.out] at this; omega
  have HSI := Lib.hid (show setB inn (n0 : Int) = true by rw [← HL.out]; exact hsi)
  have HSG := Lib.hid (show setB goal (n0 : Int) = true by rw [← HL.out]; exact hsg)
  have hkl1 : k1 ≤ 256 := by have := set_len HSI.out (by omega); rw [HK1.out] at this; omega
  have hkl2 : k2 ≤ 256 := by have := set_len HSG.out (by omega); rw [HK2.out] at this; omega
  have bi1 := hi.cap; have bi2 := hi.top; have bg1 := hg.cap; have bg2 := hg.top
  have HS := Lib.hid (show ranksL o n who inn goal = rankE o n who inn goal n0 by unfold ranksL; rw [HL.out])
  have HF := Lib.hid hf
  have hba : Below w.heap.size w (w.alloc (.cells #[.slice A0 n0 c0, .slice A1 n1 c1] 30)) := below_alloc (Nat.le_refl _) (Below.refl _ _)
  have bx := Box.new w 30 #[.slice A0 n0 c0, .slice A1 n1 c1]
  have q0 := bx.d0; have q1 := bx.d1
  clear hf hsi hsg
  go_enter Try.func65, Try.ntmps65
  go_wp2_with fail
  clear q0 q1
  refine (markOf _ _ _ _ _ _ _ _ _ inn _ _ (Nat.le_refl _) (hi.keep (keeps_below hba)) HSI.out (by omega)).mono ?_; rintro e w1 ⟨v1, rfl, hs, hb1⟩
  obtain ⟨gS, cS, rfl⟩ := hs.form2 (by rw [mkM_len]; exact hm0)
  rw [mkM_len] at hs ⊢
  replace bx := bx.below hb1 bx.lt
  have hw := below_then hb1 hba.size hba
  have hz1 : w.heap.size < w1.heap.size := bx.lt
  replace hs := hs.more (lo' := w.heap.size) (by simp)
  have hgS : gS < w1.heap.size := (hs.lt gS rfl).2
  have q0 := bx.d0; have q1 := bx.d1
  go_wp2_with (refine wpList_makeI rfl (.tmp 25) rfl _ n0 rfl (by omega) ?_; intro w2 ho hb2)
  clear q0 q1 hb1
  replace bx := bx.below hb2 bx.lt
  replace hs := hs.below hb2
  replace hw := below_then hb2 hw.size hw
  clear hb2
  generalize w1.heap.size = g8 at *
  go_loopw [29] (fun i wr => ∃ k : Nat, k ≤ n0 ∧ i = .int .i64 k ∧ OI 2 wr g8 (.slice (some ⟨g8, 0, none⟩) n0 n0) (fillUp (fun _ => -1) n0 (fun _ => 0) k) ∧ OB 4 wr w.heap.size (.slice (some ⟨gS, 0, none⟩) n0 cS) (mkM n0 inn) ∧ Box wr w.heap.size 30 #[.slice A0 n0 c0, .slice A1 n1 c1] ∧ Below w.heap.size w wr) (fun i _ => n0 - (intOf i).toNat)
  case atStart => exact ⟨0, Nat.zero_le _, rfl, by rw [fillUp_zero, ← fill_zeros]; exact ho, hs, bx, hw⟩
  case round =>
    clear ho hs bx hw
    obtain ⟨k, hk, rfl, ho, hs, bx, hw⟩ := hrel
    by_cases hlt : k < n0
    · have hcm := ho.cellAt (i := k) (by rw [fillUp_len]; exact hlt)
      have hfz := ho.hot (i := k) (by rw [fillUp_len])
      have HX := Lib.hid (fillUp_put (f := fun _ => -1) (g := fun _ => 0) hlt)
      go_wp2
      go_roundw
      case rel => exact ⟨k + 1, by omega, by go_num, by rw [← HX.out]; exact ho.set_ (by rw [fillUp_len]) (-1), hs.off (by show gS ≠ g8; omega) _, bx.far (by show w.heap.size ≠ g8; omega) _, below_set (by show w.heap.size ≤ g8; omega) hw⟩
      case measure => simp [intOf]; omega
    · obtain rfl : k = n0 := by omega
      rw [fillUp_full, ← hasFill_zero (goalF goal (mkM k inn)) (fun _ => -1) goal] at ho
      go_wp2
      go_loopw [38] (fun i wr => ∃ j : Nat, j ≤ k2 ∧ i = .int .i64 j ∧ OI 2 wr g8 (.slice (some ⟨g8, 0, none⟩) k k) (hasFill (goalF goal (mkM k inn)) (fun _ => -1) goal j k) ∧ OB 4 wr w.heap.size (.slice (some ⟨gS, 0, none⟩) k cS) (mkM k inn) ∧ Box wr w.heap.size 30 #[.slice A0 k c0, .slice A1 n1 c1] ∧ Below w.heap.size w wr) (fun i _ => k2 - (intOf i).toNat)
      case atStart => exact ⟨0, Nat.zero_le _, rfl, ho, hs, bx, hw⟩
      case round =>
        clear ho hs bx hw hlt hk
        obtain ⟨j, hj, rfl, ho, hs, bx, hw⟩ := hrel
        by_cases hjl : j < k2
        · obtain ⟨u, hu, hun⟩ := set_nat HSG.out (show j < goal.length by rw [HK2.out]; exact hjl)
          obtain ⟨bb, off, rfl, hc⟩ := (hg.keep (keeps_below hw)).at_ hjl
          have HU := Lib.hid hu
          rw [hu] at hc
          clear hu
          have hcs := hs.atx (i := u) (by rw [mkM_len]; exact hun)
          have hco := ho.cellAt (i := u) (by rw [hasFill_len]; exact hun)
          have hfo := ho.hot (i := u) (by rw [hasFill_len])
          have hui : (u : Int) < (k : Int) := by omega
          have hu0 : (0 : Int) ≤ (u : Int) := by omega
          cases hgb : gb (mkM k inn) u with
          | false =>
            rw [hgb] at hcs
            have HX := Lib.hid (hasFill_skip (f := goalF goal (mkM k inn)) (g := fun _ => -1) (n := k) (show j < goal.length by rw [HK2.out]; exact hjl) HU.out (by unfold goalF; rw [hgb]; rfl))
            clear hgb
            go_wp2
            go_roundw
            case rel => exact ⟨j + 1, by omega, by go_num, by rw [HX.out]; exact ho, hs, bx, hw⟩
            case measure => simp [intOf]; omega
          | true =>
            rw [hgb] at hcs
            have HX := Lib.hid (hasFill_step (f := goalF goal (mkM k inn)) (g := fun _ => -1) (n := k) (show j < goal.length by rw [HK2.out]; exact hjl) HU.out hun)
            have HV := Lib.hid (show goalF goal (mkM k inn) u = 0 by unfold goalF; rw [hgb]; rfl)
            clear hgb
            go_wp2
            go_roundw
            case rel => exact ⟨j + 1, by omega, by go_num, by rw [← HX.out, HV.out]; exact ho.set_ (by rw [hasFill_len]) 0, hs.off (by show gS ≠ g8; omega) _, bx.far (by show w.heap.size ≠ g8; omega) _, below_set (by show w.heap.size ≤ g8; omega) hw⟩
            case measure => simp [intOf]; omega
        · obtain rfl : j = k2 := by omega
          replace ho : OI 2 wr g8 (.slice (some ⟨g8, 0, none⟩) k k) (rnks o n who inn goal k 0) := by
            rw [hasFill_all (by rw [HK2.out]; omega)] at ho
            exact ho
          go_wp2
          go_loopg [14] (k + 1) (fun gk lv wr => ∃ (t : Nat) (R : List Int), lv = .int .i64 t ∧ R = rnks o n who inn goal k t ∧ t + negs R ≤ k ∧ negs R + 1 ≤ gk ∧ OI 2 wr g8 (.slice (some ⟨g8, 0, none⟩) k k) R ∧ OB 4 wr w.heap.size (.slice (some ⟨gS, 0, none⟩) k cS) (mkM k inn) ∧ Box wr w.heap.size 30 #[.slice A0 k c0, .slice A1 n1 c1] ∧ Below w.heap.size w wr)
          case atStart => exact ⟨0, _, rfl, rfl, by have := rnk0_negs o n who inn goal k; omega, by have := rnk0_negs o n who inn goal k; omega, ho, hs, bx, hw⟩
          case round =>
            clear ho hs bx hw hjl hj
            obtain ⟨t, R, rfl, hRt, hneg, hgk, ho, hs, bx, hw⟩ := hrel
            have hRl : R.length = k := by rw [hRt, rnks_len]
            have ht : t ≤ 256 := by omega
            have HRT := Lib.hid hRt; have HNEG := Lib.hid hneg; have HGK := Lib.hid hgk; have HRL := Lib.hid hRl
            clear hRt hneg hgk hRl
            obtain ⟨wl, rfl⟩ : ∃ wl : World, wl = wr := ⟨_, rfl⟩
            have hem := OI.empty (E := 2) (w := wl) (B := wl.heap.size) (Nat.le_refl _)
            have hbe : Below wl.heap.size wl (wl.alloc (.cells #[] 2)) := below_alloc (Nat.le_refl _) (Below.refl _ _)
            have hg8l : g8 < wl.heap.size := (ho.lt g8 rfl).2
            go_wp2
            go_loopw [15, 55] (fun x i wr => ∃ j : Nat, j ≤ k1 ∧ i = .int .i64 j ∧ OI 2 wr wl.heap.size x (fndUp o n who inn k R j) ∧ Below wl.heap.size wl wr) (fun _ i _ => k1 - (intOf i).toNat)
            case atStart => exact ⟨0, Nat.zero_le _, rfl, hem, hbe⟩
            case round =>
              clear hem hbe
              obtain ⟨j, hj, rfl, hx, hbr⟩ := hrel
              have hlen : (fndUp o n who inn k R j).length ≤ j := pick_len _ _ _
              have hsz := hbr.size
              have hwr := below_then hbr hw.size hw
              by_cases hjl : j < k1
              · obtain ⟨u, hu, hun⟩ := set_nat HSI.out (show j < inn.length by rw [HK1.out]; exact hjl)
                obtain ⟨bb, off, rfl, hc⟩ := (hi.keep (keeps_below hwr)).at_ hjl
                have HU := Lib.hid hu
                rw [hu] at hc
                clear hu
                have ho' := ho.below hbr
                have hs' := hs.below hbr
                have bx' := bx.below hbr bx.lt
                have hco := ho'.cellAt (i := u) (by rw [HRL.out]; exact hun)
                have hui : (u : Int) < (k : Int) := by omega
                have hu0 : (0 : Int) ≤ (u : Int) := by omega
                have q0 := bx'.d0; have q1 := bx'.d1
                by_cases hneg : gi R u < 0
                · have hdn : decide (gi R u < 0) = true := decide_eq_true hneg
                  have hcall := isPulled A0 A1 _ _ k c0 n1 c1 cS k o n who u (mkM k inn) R wr _ (Nat.le_refl _) (ha.keep (keeps_below hwr)) (hb.keep (keeps_below hwr)) hs'.reads ho'.reads HF.out hun
                  cases hpl : pulledB o n who (mkM k inn) R u with
                  | false =>
                    rw [hpl] at hcall
                    have HX := Lib.hid (show fndUp o n who inn k R (j + 1) = fndUp o n who inn k R j from pick_no (by rw [HU.out, Int.toNat_natCast]; unfold rnkC; rw [hpl, Bool.and_false]))
                    clear hpl
                    go_wp2_with fail
                    refine hcall.mono ?_; rintro e w4 ⟨rfl, hb4⟩
                    go_wp2
                    go_roundw
                    case rel => exact ⟨j + 1, by omega, by go_num, by rw [HX.out]; exact hx.below hb4, below_then hb4 hbr.size hbr⟩
                    case measure => simp [intOf]; omega
                  | true =>
                    rw [hpl] at hcall
                    have HX := Lib.hid (show fndUp o n who inn k R (j + 1) = fndUp o n who inn k R j ++ [(u : Int)] by rw [← HU.out]; exact pick_yes (by rw [HU.out, Int.toNat_natCast]; unfold rnkC; rw [hpl, decide_eq_true hneg]; rfl))
                    clear hpl
                    go_wp2_with fail
                    refine hcall.mono ?_; rintro e w4 ⟨rfl, hb4⟩
                    have hsz4 := hb4.size
                    go_wp2_with (at_builtin; refine wpList_pushI rfl (.tmp 72) (.tmp 74) rfl _ _ _ (fndUp o n who inn k R j) rfl (hx.below hb4) _ rfl (by omega) (by omega) ?_; intro v5 w5 ho5 hb5 hc5 hat5)
                    go_roundw
                    case rel => exact ⟨j + 1, by omega, by go_num, by rw [HX.out]; exact ho5, (below_then hb4 hbr.size hbr).trans hb5⟩
                    case measure => simp [intOf]; omega
                · have hdn : decide (gi R u < 0) = false := decide_eq_false hneg
                  have HX := Lib.hid (show fndUp o n who inn k R (j + 1) = fndUp o n who inn k R j from pick_no (by rw [HU.out, Int.toNat_natCast]; unfold rnkC; rw [hdn]; rfl))
                  go_wp2
                  go_roundw
                  case rel => exact ⟨j + 1, by omega, by go_num, by rw [HX.out]; exact hx, hbr⟩
                  case measure => simp [intOf]; omega
              · obtain rfl : j = k1 := by omega
                have HFD := Lib.hid (show fndUp o n who inn k R j = fndUp o n who inn k R inn.length by rw [HK1.out])
                rw [HFD.out] at hx hlen
                replace ho := ho.below hbr
                replace hs := hs.below hbr
                replace bx := bx.below hbr bx.lt
                obtain ⟨Ax, cx, rfl⟩ := hx.form
                generalize hfl : (fndUp o n who inn k R inn.length).length = fl at *
                have HFL := Lib.hid hfl
                clear hfl
                by_cases hz : fl = 0
                · subst hz
                  have HIS := Lib.hid (show isRnk o n who inn goal k R from ⟨t, HRT.out, fnd_end HFL.out⟩)
                  go_wp2
                  go_ret
                  exact ⟨_, rfl, by rw [HS.out, ← HIS.out.is]; exact ho.more (by omega), hwr.mono hB⟩
                · obtain ⟨gF, rfl⟩ : ∃ g, Ax = some ⟨g, 0, none⟩ := by
                    obtain ⟨g, c, e⟩ := hx.form2 (by rw [HFL.out]; omega)
                    injection e with e1 _ _
                    exact ⟨g, e1⟩
                  have hgF : wl.heap.size ≤ gF := (hx.lt gF rfl).1
                  have hzi : ((fl : Int) == 0) = false := by rw [beq_eq_false_iff_ne]; omega
                  have HNEW := Lib.hid (show negs (rnkS o n who inn (mkM k inn) R (t + 1) k) < negs R by
                    obtain ⟨u, _, h2, h3, h4⟩ := fnd_some (o := o) (n := n) (who := who) (R := R) HSI.out (j := 0) (by rw [HFL.out]; omega)
                    exact rnkS_negs HRL.out h2 h3 h4)
                  have HLF := Lib.hid (list_fill HRL.out)
                  rw [HLF.out, ← hasFill_zero (fun _ => ((t + 1 : Nat) : Int)) (gi R) (fndUp o n who inn k R inn.length)] at ho
                  have e1 : IntKind.i64.wrap ((t : Int) + 1) = (t : Int) + 1 := IntWalk.i64_in _ (by omega)
                  go_wp2
                  go_loopw [83] (fun i wq => ∃ q : Nat, q ≤ fl ∧ i = .int .i64 q ∧ OI 2 wq g8 (.slice (some ⟨g8, 0, none⟩) k k) (hasFill (fun _ => ((t + 1 : Nat) : Int)) (gi R) (fndUp o n who inn k R inn.length) q k) ∧ OI 2 wq wl.heap.size (.slice (some ⟨gF, 0, none⟩) fl cx) (fndUp o n who inn k R inn.length) ∧ OB 4 wq w.heap.size (.slice (some ⟨gS, 0, none⟩) k cS) (mkM k inn) ∧ Box wq w.heap.size 30 #[.slice A0 k c0, .slice A1 n1 c1] ∧ Below w.heap.size w wq) (fun i _ => fl - (intOf i).toNat)
                  case atStart => exact ⟨0, Nat.zero_le _, rfl, ho, hx, hs, bx, hwr⟩
                  case round =>
                    clear ho hx hs bx hwr hw hbr
                    obtain ⟨q, hq, rfl, ho, hx, hs, bx, hw⟩ := hrel
                    by_cases hql : q < fl
                    · obtain ⟨u, hu, hun, _, _⟩ := fnd_some (o := o) (n := n) (who := who) (R := R) HSI.out (j := q) (by rw [HFL.out]; exact hql)
                      have hcx := hx.cellAt (i := q) (by rw [HFL.out]; exact hql)
                      have HU := Lib.hid hu
                      rw [hu] at hcx
                      clear hu
                      have hco := ho.cellAt (i := u) (by rw [hasFill_len]; exact hun)
                      have hfo := ho.hot (i := u) (by rw [hasFill_len])
                      have hui : (u : Int) < (k : Int) := by omega
                      have hu0 : (0 : Int) ≤ (u : Int) := by omega
                      have HX := Lib.hid (hasFill_step (f := fun _ => ((t + 1 : Nat) : Int)) (g := gi R) (n := k) (show q < (fndUp o n who inn k R inn.length).length by rw [HFL.out]; exact hql) HU.out hun)
                      go_wp2
                      go_roundw
                      case rel => exact ⟨q + 1, by omega, by go_num, by rw [← HX.out]; exact ho.set_ (by rw [hasFill_len]) _, hx.off (by show gF ≠ g8; omega) _, hs.off (by show gS ≠ g8; omega) _, bx.far (by show w.heap.size ≠ g8; omega) _, below_set (by show w.heap.size ≤ g8; omega) hw⟩
                      case measure => simp [intOf]; omega
                    · obtain rfl : q = fl := by omega
                      rw [hasFill_all (by rw [HFL.out]; omega), fnd_all] at ho
                      go_wp2
                      go_roundg (negs (rnkS o n who inn (mkM k inn) R (t + 1) k) + 1)
                      case rel => exact ⟨t + 1, _, by go_num, by rw [rnks, ← HRT.out], by have := HNEW.out; have := HNEG.out; omega, Nat.le_refl _, ho, hs, bx, hw⟩
                      case measure => have := HNEW.out; have := HGK.out; omega

end Go.Proofs.Ytngadlpfheakiaa
namespace Go.Proofs.Ytngadlpfheakiaa
open Go.RowKit


end Go.Proofs.Ytngadlpfheakiaa
