/- Marks: slices of bool that are read; markOf, l16Marks, listOf, l16List; moves, l15Into; canAttract, l15Right. -/
import Derived.Test.YtngadlpfheakiaaArena
import Derived.Test.YtngadlpfheakiaaLess
import Derived.OwnWalk
namespace Go.Proofs.Ytngadlpfheakiaa
open Go.RowKit

/-- a slice of bool that reads as a list -/
def RB (w : World) (A : Option Addr) (n c : Nat) (xs : List Bool) : Prop :=
  xs.length = n ∧ (n ≤ c ∧ c ≤ 9223372036854775807) ∧ ∀ i, i < n → ∃ b off, A = some ⟨b, off, none⟩ ∧ w.cell? ⟨b, off + i, none⟩ = some (.bool (gb xs i))
section
variable {w w' : World} {A : Option Addr} {n c : Nat} {xs : List Bool}
theorem RB.len (h : RB w A n c xs) : xs.length = n := h.1
theorem RB.cap (h : RB w A n c xs) : n ≤ c := h.2.1.1
theorem RB.top (h : RB w A n c xs) : c ≤ 9223372036854775807 := h.2.1.2
theorem RB.at_ (h : RB w A n c xs) {i : Nat} (hi : i < n) : ∃ b off, A = some ⟨b, off, none⟩ ∧ w.cell? ⟨b, off + i, none⟩ = some (.bool (gb xs i)) := h.2.2 i hi
theorem RB.keep (h : RB w A n c xs) (k : Keeps w w') : RB w' A n c xs :=
  ⟨h.1, h.2.1, fun i hi => by obtain ⟨b, off, e, hc⟩ := h.2.2 i hi; exact ⟨b, off, e, k _ _ hc⟩⟩
end
section
variable {E : TypeId} {w w' : World} {lo : Nat} {v : Value} {xs : List Bool}
theorem OB.form (h : OB E w lo v xs) : ∃ A c, v = .slice A xs.length c := by
  rcases h.2 with ⟨rfl, hn⟩ | ⟨g, cap, cur, rfl, _⟩
  · exact ⟨none, 0, by rw [hn]⟩
  · exact ⟨_, _, rfl⟩
theorem OB.reads {n c : Nat} {A : Option Addr} (h : OB E w lo (.slice A n c) xs) : RB w A n c xs := by
  have hn : n = xs.length ∧ n ≤ c ∧ c ≤ 9223372036854775807 := by
    rcases h.2 with ⟨h1, hn⟩ | ⟨g, cap, cur, h1, _, _, h2, h3, _⟩
    · injection h1 with _ h2 h3; omega
    · injection h1 with _ h4 h5; unfold maxLen at h3; omega
  obtain ⟨hn, hc⟩ := hn
  subst hn
  refine ⟨rfl, hc, fun i hi => ?_⟩
  rcases h.2 with ⟨h1, hn⟩ | ⟨g, cap, cur, h1, _⟩
  · omega
  · injection h1 with h1 h2 h3
    subst h1
    subst h3
    refine ⟨g, 0, rfl, ?_⟩
    rw [Nat.zero_add]
    exact h.at_ hi
theorem OB.drewN (h : OB E w lo v xs) (q : Nat) : OB E (w.drewN q) lo v xs := h
theorem OB.more {lo' : Nat} (h : OB E w lo v xs) (hl : lo' ≤ lo) : OB E w lo' v xs := row_more h hl
theorem OB.lt (h : OB E w lo v xs) : ∀ k, v.ownBlock = some k → lo ≤ k ∧ k < w.heap.size := World.ownsRow.lt h
theorem OB.empty {B : Nat} (hB : B ≤ w.heap.size) : OB E (w.alloc (.cells #[] E)) B (.slice (some ⟨w.heap.size, 0, none⟩) 0 0) [] := World.ownsRow_lit w #[] 0 hB (by decide) rfl
end
theorem gb_rep (n i : Nat) : gb (List.replicate n false) i = false := by
  unfold gb
  rw [List.getD_eq_getElem?_getD, List.getElem?_replicate]
  split <;> rfl
theorem gb_ext {xs ys : List Bool} (hl : xs.length = ys.length) (h : ∀ j, j < xs.length → gb xs j = gb ys j) : xs = ys := by
  refine List.ext_getElem hl fun i a b => ?_
  have := h i a
  rwa [gb_get a, gb_get b] at this
theorem infoB : (Try.prog.info? 4).map (fun i => (i.zero, i.size, i.bytes)) = some (some (.bool false), 1, 1) := by kernel_rfl
set_option maxRecDepth 100000 in
theorem wpList_makeB {ops : Array Oper} {rest : List Oper} {o : Oper} {a : Act} {Q : Exit → Act → World → Prop} (hgd : o.guard = none) (s : Operand) (ho : o.op = .makeSlice 78 s s)
    (w : World) (n : Nat) (hs : a.eval s = .int .i64 n) (hn : n ≤ 1048576)
    (h : ∀ w', OB 4 w' w.heap.size (.slice (some ⟨w.heap.size, 0, none⟩) n n) (List.replicate n false) → Below w.heap.size w w' → wpList Try.prog ops Q rest (a.put o.dst (.slice (some ⟨w.heap.size, 0, none⟩) n n)) w') : wpList Try.prog ops Q (o :: rest) a w := by
  obtain ⟨i0, hi0, hz0, hz1, hz2⟩ := info_parts infoB
  refine wpList_make_full w hgd s s 78 ho w.heap.size 4 i0 (.bool false) 1 Try.underlying78 hi0 hz0 hz1 .i64 .i64 _ _ n hs hs rfl rfl (by rw [hz2]; omega) (by unfold maxLen; omega) (Nat.le_refl _) ?_
  intro w1 hown hgrow
  exact h w1 (OB.made hown rfl) ((Below.refl _ _).grown hgrow (Nat.le_refl _) (by simp))

/-! ### marks of a set -/
def mkM (n : Nat) (s : List Int) : List Bool := (List.range n).map fun (i : Nat) => hasL s (i : Int)
theorem mkM_len (n : Nat) (s : List Int) : (mkM n s).length = n := by simp [mkM]
theorem mkM_at {n : Nat} {s : List Int} {i : Nat} (h : i < n) : gb (mkM n s) i = hasL s (i : Int) := by rw [gb_get (by rw [mkM_len]; exact h)]; simp [mkM]
theorem mkM_zero (n : Nat) : mkM n [] = List.replicate n false := gb_ext (by simp [mkM]) fun j hj => by
  rw [mkM_len] at hj
  rw [mkM_at hj, gb_rep]
  rfl
theorem mkM_put {n : Nat} {s : List Int} {k m : Nat} (hk : k < s.length) (hm : gi s k = (m : Int)) (hn : m < n) : (mkM n (s.take k)).set m true = mkM n (s.take (k + 1)) := gb_ext (by simp [mkM_len]) fun j hj => by
  rw [List.length_set, mkM_len] at hj
  rw [gb_set (by rw [mkM_len]; exact hn), mkM_at hj, mkM_at hj, take_gi hk, hm]
  unfold hasL
  by_cases e : m = j
  · subst e; rw [if_pos rfl]; simp
  · rw [if_neg e]
    refine decide_eq_decide.2 ?_
    simp only [List.mem_append, List.mem_singleton]
    constructor
    · exact .inl
    · rintro (h | h)
      · exact h
      · omega
theorem set_nat {s : List Int} {n : Nat} {k : Nat} (h : setB s (n : Int) = true) (hk : k < s.length) : ∃ m : Nat, gi s k = (m : Int) ∧ m < n := by
  obtain ⟨h1, h2, _⟩ := setB_true.1 h k hk
  exact ⟨(gi s k).toNat, by omega, by omega⟩

/-! ### the marks of a set, as a walk makes them -/
set_option maxRecDepth 100000 in
set_option maxHeartbeats 400000 in
theorem markOf (A0 A1 C : Option Addr) (n0 c0 n1 c1 m d : Nat) (s : List Int) (w : World) (B : Nat) (hB : B ≤ w.heap.size) (hb : RI w C m d s) (hs : setB s (n0 : Int) = true) (hn : n0 ≤ 1048576) :
    Calls Try.prog 64 #[.agg #[.slice A0 n0 c0, .slice A1 n1 c1], .slice C m d] w fun e w' => ∃ v, e = .returned v ∧ OB 4 w' B v (mkM n0 s) ∧ Below B w w' := by
  have q0 := (Box.new w 30 #[.slice A0 n0 c0, .slice A1 n1 c1]).d0
  have hba : Below w.heap.size w (w.alloc (.cells #[.slice A0 n0 c0, .slice A1 n1 c1] 30)) := below_alloc (Nat.le_refl _) (Below.refl _ _)
  have hsz : (w.alloc (.cells #[.slice A0 n0 c0, .slice A1 n1 c1] 30)).heap.size = w.heap.size + 1 := by simp
  have b3 := hb.cap; have b4 := hb.top
  have HM := Lib.hid hb.len; have HS := Lib.hid hs; have HZ := Lib.hid hsz; clear hs hsz
  go_enter Try.func64, Try.ntmps64
  go_wp2_with (refine wpList_makeB rfl (.tmp 10) rfl _ n0 rfl hn ?_; intro w1 hown hb1; rw [HZ.out] at hown ⊢; replace hb1 := below_then hb1 hba.size hba; replace hown := hown.more (lo' := w.heap.size) (by omega); clear hba q0)
  go_loopw [14] (fun i wr => ∃ k : Nat, k ≤ m ∧ i = .int .i64 k ∧ OB 4 wr w.heap.size (.slice (some ⟨w.heap.size + 1, 0, none⟩) n0 n0) (mkM n0 (s.take k)) ∧ Below w.heap.size w wr) (fun i _ => m - (intOf i).toNat)
  case atStart => exact ⟨0, Nat.zero_le _, rfl, by rw [List.take_zero, mkM_zero]; exact hown, hb1⟩
  case round =>
    obtain ⟨k, hk, rfl, ho, hbr⟩ := hrel
    by_cases hlt : k < m
    · obtain ⟨j, hj, hjn⟩ := set_nat HS.out (show k < s.length by rw [HM.out]; exact hlt)
      obtain ⟨bb, off, rfl, hc⟩ := (hb.keep (keeps_below hbr)).at_ hlt
      rw [hj] at hc
      have hcm := ho.at_ (i := j) (by rw [mkM_len]; exact hjn)
      have hfz := ho.hot (i := j) (by rw [mkM_len])
      have HX := Lib.hid (mkM_put (n := n0) (show k < s.length by rw [HM.out]; exact hlt) hj hjn)
      have HO := Lib.hid ho
      clear hj ho
      go_wp2
      go_roundw
      case rel => exact ⟨k + 1, by omega, by go_num, by rw [← HX.out]; exact HO.out.set_ (by rw [mkM_len]) true, below_set (by show w.heap.size ≤ w.heap.size + 1; omega) hbr⟩
      case measure => simp [intOf]; omega
    · obtain rfl : k = m := by omega
      have HE := Lib.hid (show s.take k = s from List.take_of_length_le (by rw [HM.out]; omega))
      go_wp2
      go_ret
      exact ⟨_, rfl, by rw [← HE.out]; exact ho.more hB, hbr.mono hB⟩

set_option maxRecDepth 100000 in
set_option maxHeartbeats 400000 in
theorem l16Marks (n0 : Nat) (C : Option Addr) (m d : Nat) (s : List Int) (w : World) (B : Nat) (hB : B ≤ w.heap.size) (hb : RI w C m d s) (hs : setB s (n0 : Int) = true) (hn : n0 ≤ 1048576) :
    Calls Try.prog 127 #[.int .i64 (n0 : Int), .slice C m d] w fun e w' => ∃ v, e = .returned v ∧ OB 4 w' B v (mkM n0 s) ∧ Below B w w' := by
  have hba := Below.refl w.heap.size w
  have hsz : w.heap.size = w.heap.size := rfl
  have b3 := hb.cap; have b4 := hb.top
  have HM := Lib.hid hb.len; have HS := Lib.hid hs; have HZ := Lib.hid hsz; clear hs hsz
  go_enter Try.func127, Try.ntmps127
  go_wp2_with (refine wpList_makeB rfl (.tmp 7) rfl _ n0 rfl hn ?_; intro w1 hown hb1; rw [HZ.out] at hown ⊢; replace hb1 := below_then hb1 hba.size hba; replace hown := hown.more (lo' := w.heap.size) (by omega); clear hba)
  go_loopw [6] (fun i wr => ∃ k : Nat, k ≤ m ∧ i = .int .i64 k ∧ OB 4 wr w.heap.size (.slice (some ⟨w.heap.size, 0, none⟩) n0 n0) (mkM n0 (s.take k)) ∧ Below w.heap.size w wr) (fun i _ => m - (intOf i).toNat)
  case atStart => exact ⟨0, Nat.zero_le _, rfl, by rw [List.take_zero, mkM_zero]; exact hown, hb1⟩
  case round =>
    obtain ⟨k, hk, rfl, ho, hbr⟩ := hrel
    by_cases hlt : k < m
    · obtain ⟨j, hj, hjn⟩ := set_nat HS.out (show k < s.length by rw [HM.out]; exact hlt)
      obtain ⟨bb, off, rfl, hc⟩ := (hb.keep (keeps_below hbr)).at_ hlt
      rw [hj] at hc
      have hcm := ho.at_ (i := j) (by rw [mkM_len]; exact hjn)
      have hfz := ho.hot (i := j) (by rw [mkM_len])
      have HX := Lib.hid (mkM_put (n := n0) (show k < s.length by rw [HM.out]; exact hlt) hj hjn)
      have HO := Lib.hid ho
      clear hj ho
      go_wp2
      go_roundw
      case rel => exact ⟨k + 1, by omega, by go_num, by rw [← HX.out]; exact HO.out.set_ (by rw [mkM_len]) true, below_set (by show w.heap.size ≤ w.heap.size; omega) hbr⟩
      case measure => simp [intOf]; omega
    · obtain rfl : k = m := by omega
      have HE := Lib.hid (show s.take k = s from List.take_of_length_le (by rw [HM.out]; omega))
      go_wp2
      go_ret
      exact ⟨_, rfl, by rw [← HE.out]; exact ho.more hB, hbr.mono hB⟩

/-! ### the list of what is marked -/
def listUp (ms : List Bool) (k : Nat) : List Int := pick (gb ms) (fun i => (i : Int)) k
def listM (ms : List Bool) : List Int := listUp ms ms.length
theorem list_len (ms : List Bool) (k : Nat) : (listUp ms k).length ≤ k := pick_len _ _ _
set_option maxRecDepth 100000 in
set_option maxHeartbeats 400000 in
theorem listOf (A : Option Addr) (n c : Nat) (ms : List Bool) (w : World) (B : Nat) (hB : B ≤ w.heap.size) (ha : RB w A n c ms) (hn : n ≤ 1048576) :
    Calls Try.prog 87 #[.slice A n c] w fun e w' => ∃ v, e = .returned v ∧ OI 2 w' B v (listM ms) ∧ Below B w w' := by
  have b1 := ha.cap; have b2 := ha.top
  have HL := Lib.hid ha.len
  go_enter Try.func87, Try.ntmps87
  go_wp2
  go_loopw [3, 9] (fun v i wr => ∃ k : Nat, k ≤ n ∧ i = .int .i64 k ∧ OI 2 wr w.heap.size v (listUp ms k) ∧ Below w.heap.size w wr) (fun _ i _ => n - (intOf i).toNat)
  case atStart => exact ⟨0, Nat.zero_le _, rfl, OI.empty (Nat.le_refl _), by repeat (first | with_reducible assumption | with_reducible exact Below.refl _ _ | with_reducible refine below_drewN ?_ _ | with_reducible refine Below.drew ?_ | with_reducible refine below_alloc (Nat.le_refl _) ?_)⟩
  case round =>
    obtain ⟨k, hk, rfl, ho, hbr⟩ := hrel
    have hup := list_len ms k
    have hsz := hbr.size
    by_cases hlt : k < n
    · obtain ⟨bb, off, rfl, hc⟩ := (ha.keep (keeps_below hbr)).at_ hlt
      cases hp : gb ms k with
      | true =>
        rw [hp] at hc
        have HX := Lib.hid (show listUp ms (k + 1) = listUp ms k ++ [(k : Int)] from pick_yes hp)
        clear hp
        go_wp2_with (refine wpList_pushI rfl (.tmp 15) (.tmp 17) rfl _ _ _ (listUp ms k) rfl ho _ rfl (by omega) hsz ?_; intro v2 w2 ho2 hb2 hc2 hat2)
        go_roundw
        case rel => exact ⟨k + 1, by omega, by go_num, by rw [HX.out]; exact ho2, hbr.trans hb2⟩
        case measure => simp [intOf]; omega
      | false =>
        rw [hp] at hc
        have HX := Lib.hid (show listUp ms (k + 1) = listUp ms k from pick_no hp)
        clear hp
        go_wp2
        go_roundw
        case rel => exact ⟨k + 1, by omega, by go_num, by rw [HX.out]; exact ho, hbr⟩
        case measure => simp [intOf]; omega
    · obtain rfl : k = n := by omega
      have HE := Lib.hid (show listUp ms k = listM ms by rw [← HL.out]; rfl)
      go_wp2
      go_ret
      exact ⟨_, rfl, by rw [← HE.out]; exact ho.more hB, hbr.mono hB⟩

set_option maxRecDepth 100000 in
set_option maxHeartbeats 400000 in
theorem l16List (A : Option Addr) (n c : Nat) (ms : List Bool) (w : World) (B : Nat) (hB : B ≤ w.heap.size) (ha : RB w A n c ms) (hn : n ≤ 1048576) :
    Calls Try.prog 74 #[.slice A n c] w fun e w' => ∃ v, e = .returned v ∧ OI 2 w' B v (listM ms) ∧ Below B w w' := by
  have b1 := ha.cap; have b2 := ha.top
  have HL := Lib.hid ha.len
  go_enter Try.func74, Try.ntmps74
  go_wp2
  go_loopw [3, 4] (fun v i wr => ∃ k : Nat, k ≤ n ∧ i = .int .i64 k ∧ OI 2 wr w.heap.size v (listUp ms k) ∧ Below w.heap.size w wr) (fun _ i _ => n - (intOf i).toNat)
  case atStart => exact ⟨0, Nat.zero_le _, rfl, OI.empty (Nat.le_refl _), by repeat (first | with_reducible assumption | with_reducible exact Below.refl _ _ | with_reducible refine below_drewN ?_ _ | with_reducible refine Below.drew ?_ | with_reducible refine below_alloc (Nat.le_refl _) ?_)⟩
  case round =>
    obtain ⟨k, hk, rfl, ho, hbr⟩ := hrel
    have hup := list_len ms k
    have hsz := hbr.size
    by_cases hlt : k < n
    · obtain ⟨bb, off, rfl, hc⟩ := (ha.keep (keeps_below hbr)).at_ hlt
      cases hp : gb ms k with
      | true =>
        rw [hp] at hc
        have HX := Lib.hid (show listUp ms (k + 1) = listUp ms k ++ [(k : Int)] from pick_yes hp)
        clear hp
        go_wp2_with (refine wpList_pushI rfl (.tmp 16) (.tmp 18) rfl _ _ _ (listUp ms k) rfl ho _ rfl (by omega) hsz ?_; intro v2 w2 ho2 hb2 hc2 hat2)
        go_roundw
        case rel => exact ⟨k + 1, by omega, by go_num, by rw [HX.out]; exact ho2, hbr.trans hb2⟩
        case measure => simp [intOf]; omega
      | false =>
        rw [hp] at hc
        have HX := Lib.hid (show listUp ms (k + 1) = listUp ms k from pick_no hp)
        clear hp
        go_wp2
        go_roundw
        case rel => exact ⟨k + 1, by omega, by go_num, by rw [HX.out]; exact ho, hbr⟩
        case measure => simp [intOf]; omega
    · obtain rfl : k = n := by omega
      have HE := Lib.hid (show listUp ms k = listM ms by rw [← HL.out]; rfl)
      go_wp2
      go_ret
      exact ⟨_, rfl, by rw [← HE.out]; exact ho.more hB, hbr.mono hB⟩

/-! ### can a player move into marked vertices -/
def someUp (ns : List Int) (ms : List Bool) : Nat → Bool
  | 0 => false
  | k + 1 => someUp ns ms k || gb ms (gi ns k).toNat
def allUp (ns : List Int) (ms : List Bool) : Nat → Bool
  | 0 => true
  | k + 1 => allUp ns ms k && gb ms (gi ns k).toNat
def intoB (o : List Int) (n : List (List Int)) (who : Int) (ms : List Bool) (v : Nat) : Bool := if gi o v = who then someUp (gl n v) ms (gl n v).length else allUp (gl n v) ms (gl n v).length
theorem someUp_at {ns : List Int} {ms : List Bool} {k j : Nat} (h : gi ns k = (j : Int)) : someUp ns ms (k + 1) = (someUp ns ms k || gb ms j) := by rw [someUp, h]; rfl
theorem allUp_at {ns : List Int} {ms : List Bool} {k j : Nat} (h : gi ns k = (j : Int)) : allUp ns ms (k + 1) = (allUp ns ms k && gb ms j) := by rw [allUp, h]; rfl
/-- what the walks ask of an arena in order -/
def fineAr (o : List Int) (n : List (List Int)) : Prop := 1 ≤ o.length ∧ o.length ≤ 256 ∧ n.length = o.length ∧ ∀ v, v < o.length → (0 ≤ gi o v ∧ gi o v ≤ 1) ∧ (1 ≤ (gl n v).length ∧ (gl n v).length ≤ 16) ∧ setB (gl n v) (o.length : Int) = true
theorem fineAr_of {o : List Int} {n : List (List Int)} (h : arB o n = true) : fineAr o n := by
  obtain ⟨⟨h1, h2, h3⟩, h4⟩ := arB_iff.1 h
  exact ⟨h1, h2, h3, fun v hv => vOk_iff.1 (h4 v hv)⟩

set_option maxRecDepth 100000 in
set_option maxHeartbeats 800000 in
theorem moves (A0 A1 D : Option Addr) (n0 c0 n1 c1 m d : Nat) (o : List Int) (n : List (List Int)) (who : Int) (v : Nat) (ms : List Bool) (w : World) (B : Nat) (hB : B ≤ w.heap.size) (ha : RI w A0 n0 c0 o) (hb : RII w A1 n1 c1 n) (hm : RB w D m d ms) (hf : fineAr o n) (hv : v < n0) (hml : m = n0) :
    Calls Try.prog 115 #[.agg #[.slice A0 n0 c0, .slice A1 n1 c1], .int .i64 who, .int .i64 (v : Int), .slice D m d] w fun e w' => e = .returned (.bool (intoB o n who ms v)) ∧ Below B w w' := by
  have b1 := ha.cap; have b2 := ha.top; have b3 := hb.cap; have b4 := hb.top; have b5 := hm.cap; have b6 := hm.top
  have HL := Lib.hid ha.len; have HM := Lib.hid hb.len
  obtain ⟨hf1, hf2, hf3, hf4⟩ := hf
  obtain ⟨_, ⟨hk1, hk2⟩, hset⟩ := hf4 v (by rw [HL.out]; exact hv)
  rw [HL.out] at hset hf3
  have hv1 : v < n1 := by rw [← HM.out, hf3]; exact hv
  have HSET := Lib.hid hset
  clear hf1 hf2 hf3 hf4 hset
  have hba : Below w.heap.size w (w.alloc (.cells #[.slice A0 n0 c0, .slice A1 n1 c1] 30)) := below_alloc (Nat.le_refl _) (Below.refl _ _)
  have q0 := (Box.new w 30 #[.slice A0 n0 c0, .slice A1 n1 c1]).d0
  have q1 := (Box.new w 30 #[.slice A0 n0 c0, .slice A1 n1 c1]).d1
  replace ha := ha.keep (keeps_below hba); replace hb := hb.keep (keeps_below hba); replace hm := hm.keep (keeps_below hba)
  obtain ⟨ba, oa, rfl, hcA⟩ := ha.at_ hv
  obtain ⟨bn, on, An, nn, cn, rfl, hcN, rn⟩ := hb.at_ hv1
  have bn1 := rn.cap; have bn2 := rn.top
  have HN := Lib.hid rn.len
  rw [HN.out] at hk1 hk2
  have hvi : (v : Int) < (n0 : Int) := by omega
  have hvi1 : (v : Int) < (n1 : Int) := by omega
  go_enter Try.func115, Try.ntmps115
  go_wp2
  go_loopw [9, 10, 19] (fun x y i wr => ∃ (k : Nat) (p q : Bool), k ≤ nn ∧ i = .int .i64 k ∧ x = .bool p ∧ y = .bool q ∧ p = someUp (gl n v) ms k ∧ q = allUp (gl n v) ms k ∧ ∃ t, wr = (w.alloc (.cells #[.slice (some ⟨ba, oa, none⟩) n0 c0, .slice (some ⟨bn, on, none⟩) n1 c1] 30)).drewN t) (fun _ _ i _ => nn - (intOf i).toNat)
  case atStart => exact ⟨0, false, true, Nat.zero_le _, rfl, rfl, rfl, rfl, rfl, 0, rfl⟩
  case round =>
    obtain ⟨k, p, q, hk, rfl, rfl, rfl, hp, hq, t, rfl⟩ := hrel
    have HP := Lib.hid hp; have HQ := Lib.hid hq; clear hp hq
    by_cases hlt : k < nn
    · obtain ⟨j, hj, hjn⟩ := set_nat HSET.out (show k < (gl n v).length by rw [HN.out]; exact hlt)
      obtain ⟨bb, off, rfl, hc⟩ := rn.at_ hlt
      obtain ⟨bm, om, rfl, hcM⟩ := hm.at_ (i := j) (by omega)
      have X1 := Lib.hid (someUp_at (ms := ms) hj); have X2 := Lib.hid (allUp_at (ms := ms) hj)
      rw [hj] at hc
      have hjm : (j : Int) < (m : Int) := by omega
      have hki : (k : Int) < (nn : Int) := by omega
      have hk0 : (0 : Int) ≤ (k : Int) := by omega
      clear hj
      cases p <;> cases q <;> cases hg : gb ms j <;> rw [hg] at hcM
      all_goals
        go_wp2
        go_roundw
        case rel => exact ⟨k + 1, _, _, by omega, by go_num, rfl, rfl, by rw [X1.out, ← HP.out, hg]; rfl, by rw [X2.out, ← HQ.out, hg]; rfl, _, rfl⟩
        case measure => simp [intOf]; omega
    · obtain rfl : k = nn := by omega
      by_cases he : gi o v = who
      · have E := Lib.hid (show intoB o n who ms v = p by unfold intoB; rw [if_pos he, HN.out, HP.out])
        have h1 : (gi o v == who) = true := by simpa using he
        clear he
        go_wp2
        go_ret
        exact ⟨ret_b E.out.symm, below_drewN (hba.mono hB) _⟩
      · have E := Lib.hid (show intoB o n who ms v = q by unfold intoB; rw [if_neg he, HN.out, HQ.out])
        have h1 : (gi o v == who) = false := by simpa using he
        clear he
        go_wp2
        go_ret
        exact ⟨ret_b E.out.symm, below_drewN (hba.mono hB) _⟩

/-! ### the checks -/
noncomputable def okA (o : List Int) (n : List (List Int)) (who : Int) (s : List Int) : Bool := arB o n && (inR who 0 1 && setB s o.length)
theorem setB_nil (n : Int) : setB [] n = true := setB_true.2 fun i h => absurd h (by simp)

set_option maxRecDepth 100000 in
set_option maxHeartbeats 400000 in
theorem canAttract (A0 A1 C : Option Addr) (n0 c0 n1 c1 m d : Nat) (o : List Int) (n : List (List Int)) (who : Int) (s : List Int) (w : World) (B : Nat) (hB : B ≤ w.heap.size) (ha : RI w A0 n0 c0 o) (hb : RII w A1 n1 c1 n) (hs : RI w C m d s) :
    Calls Try.prog 56 #[.agg #[.slice A0 n0 c0, .slice A1 n1 c1], .int .i64 who, .slice C m d, .slice none 0 0] w fun e w' => e = .returned (.bool (okA o n who s)) ∧ Below B w w' := by
  have b1 := ha.cap; have b2 := ha.top
  have HL := Lib.hid ha.len
  have hba : Below w.heap.size w (w.alloc (.cells #[.slice A0 n0 c0, .slice A1 n1 c1] 30)) := below_alloc (Nat.le_refl _) (Below.refl _ _)
  have bx := Box.new w 30 #[.slice A0 n0 c0, .slice A1 n1 c1]
  have q0 := bx.d0; have q1 := bx.d1
  cases h1 : arB o n with
  | false =>
    have E := Lib.hid (show okA o n who s = false by unfold okA; rw [h1]; rfl)
    go_enter Try.func56, Try.ntmps56
    go_wp2_with fail
    refine (implArenaOk _ _ _ _ _ _ _ _ _ _ (Nat.le_refl _) (ha.keep (keeps_below hba)) (hb.keep (keeps_below hba))).mono ?_; rintro e w1 ⟨rfl, hb1'⟩
    have hb1 := below_then hb1' hba.size hba
    have bx1 := bx.below hb1' bx.lt
    have q10 := bx1.d0; have q11 := bx1.d1
    go_wp2
    go_ret
    exact ⟨ret_b E.out.symm, hb1.mono hB⟩
  | true =>
    cases h2 : inR who 0 1 with
    | false =>
      have E := Lib.hid (show okA o n who s = false by unfold okA; rw [h1, h2]; rfl)
      go_enter Try.func56, Try.ntmps56
      go_wp2_with fail
      refine (implArenaOk _ _ _ _ _ _ _ _ _ _ (Nat.le_refl _) (ha.keep (keeps_below hba)) (hb.keep (keeps_below hba))).mono ?_; rintro e w1 ⟨rfl, hb1'⟩
      have hb1 := below_then hb1' hba.size hba
      have bx1 := bx.below hb1' bx.lt
      have q10 := bx1.d0; have q11 := bx1.d1
      go_wp2_with fail
      refine (isPlayerQ _ _).mono ?_; rintro e w2 ⟨rfl, hq2⟩
      have hb2 := below_qt hq2 hb1
      have bx2 := bx1.below (below_qt hq2 (Below.refl _ _)) bx1.lt
      have q20 := bx2.d0; have q21 := bx2.d1
      go_wp2
      go_ret
      exact ⟨ret_b E.out.symm, hb2.mono hB⟩
    | true =>
      cases h3 : setB s o.length with
      | false =>
        have E := Lib.hid (show okA o n who s = false by unfold okA; rw [h1, h2, h3]; rfl)
        have HZ := Lib.hid (show setB s (n0 : Int) = false by rw [← HL.out]; exact h3)
        go_enter Try.func56, Try.ntmps56
        go_wp2_with fail
        refine (implArenaOk _ _ _ _ _ _ _ _ _ _ (Nat.le_refl _) (ha.keep (keeps_below hba)) (hb.keep (keeps_below hba))).mono ?_; rintro e w1 ⟨rfl, hb1'⟩
        have hb1 := below_then hb1' hba.size hba
        have bx1 := bx.below hb1' bx.lt
        have q10 := bx1.d0; have q11 := bx1.d1
        go_wp2_with fail
        refine (isPlayerQ _ _).mono ?_; rintro e w2 ⟨rfl, hq2⟩
        have hb2 := below_qt hq2 hb1
        have bx2 := bx1.below (below_qt hq2 (Below.refl _ _)) bx1.lt
        have q20 := bx2.d0; have q21 := bx2.d1
        go_wp2_with fail
        refine (implSize _ _ _ _ _ _ _ _ (Nat.le_refl _) (by omega)).mono ?_; rintro e w3 ⟨rfl, hb3'⟩
        have hb3 := below_then hb3' hb2.size hb2
        have bx3 := bx2.below hb3' bx2.lt
        have q30 := bx3.d0; have q31 := bx3.d1
        go_wp2_with fail
        refine (isSet _ _ _ s _ _ (hs.keep (keeps_below hb3))).mono ?_; rintro e w4 ⟨rfl, hq4⟩
        rw [HZ.out]
        have hb4 := below_qt hq4 hb3
        have bx4 := bx3.below (below_qt hq4 (Below.refl _ _)) bx3.lt
        have q40 := bx4.d0; have q41 := bx4.d1
        go_wp2
        go_ret
        exact ⟨ret_b E.out.symm, hb4.mono hB⟩
      | true =>
        have E := Lib.hid (show okA o n who s = true by unfold okA; rw [h1, h2, h3]; rfl)
        have HZ := Lib.hid (show setB s (n0 : Int) = true by rw [← HL.out]; exact h3)
        go_enter Try.func56, Try.ntmps56
        go_wp2_with fail
        refine (implArenaOk _ _ _ _ _ _ _ _ _ _ (Nat.le_refl _) (ha.keep (keeps_below hba)) (hb.keep (keeps_below hba))).mono ?_; rintro e w1 ⟨rfl, hb1'⟩
        have hb1 := below_then hb1' hba.size hba
        have bx1 := bx.below hb1' bx.lt
        have q10 := bx1.d0; have q11 := bx1.d1
        go_wp2_with fail
        refine (isPlayerQ _ _).mono ?_; rintro e w2 ⟨rfl, hq2⟩
        have hb2 := below_qt hq2 hb1
        have bx2 := bx1.below (below_qt hq2 (Below.refl _ _)) bx1.lt
        have q20 := bx2.d0; have q21 := bx2.d1
        go_wp2_with fail
        refine (implSize _ _ _ _ _ _ _ _ (Nat.le_refl _) (by omega)).mono ?_; rintro e w3 ⟨rfl, hb3'⟩
        have hb3 := below_then hb3' hb2.size hb2
        have bx3 := bx2.below hb3' bx2.lt
        have q30 := bx3.d0; have q31 := bx3.d1
        go_wp2_with fail
        refine (isSet _ _ _ s _ _ (hs.keep (keeps_below hb3))).mono ?_; rintro e w4 ⟨rfl, hq4⟩
        rw [HZ.out]
        have hb4 := below_qt hq4 hb3
        have bx4 := bx3.below (below_qt hq4 (Below.refl _ _)) bx3.lt
        have q40 := bx4.d0; have q41 := bx4.d1
        go_wp2_with fail
        refine (implSize _ _ _ _ _ _ _ _ (Nat.le_refl _) (by omega)).mono ?_; rintro e w5 ⟨rfl, hb5'⟩
        have hb5 := below_then hb5' hb4.size hb4
        have bx5 := bx4.below hb5' bx4.lt
        have q50 := bx5.d0; have q51 := bx5.d1
        go_wp2_with fail
        refine (isSet _ _ _ [] _ _ RI.of_nil).mono ?_; rintro e w6 ⟨rfl, hq6⟩
        rw [setB_nil]
        have hb6 := below_qt hq6 hb5
        have bx6 := bx5.below (below_qt hq6 (Below.refl _ _)) bx5.lt
        have q60 := bx6.d0; have q61 := bx6.d1
        go_wp2
        go_ret
        exact ⟨ret_b E.out.symm, hb6.mono hB⟩

end Go.Proofs.Ytngadlpfheakiaa
