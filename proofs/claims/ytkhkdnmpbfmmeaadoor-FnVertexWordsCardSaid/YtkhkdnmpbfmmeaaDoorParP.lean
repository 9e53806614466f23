/- Appends to a game of the call's own: an owner, a priority, a row of successors. l1Into: a number put into a set; BothOf: a set and one number. A game with a row beside it; w9Game. -/
import Derived.Test.YtkhkdnmpbfmmeaaDoorGame2
import Derived.Test.YtkhkdnmpbfmmeaaDoorApp
import Derived.Test.YtkhkdnmpbfmmeaaDoorCopy
import Derived.Test.YtkhkdnmpbfmmeaaDoorLess
import Derived.Test.YtkhkdnmpbfmmeaaDoorDice
import Derived.Test.YtkhkdnmpbfmmeaaDoorArn
namespace Go.Proofs.YtkhkdnmpbfmmeaaDoor
open Go.RowKit

theorem apart_grow3 {u v x : Value} {H : Nat} (h : Apart u x) (hat : ∀ b, v.ownBlock = some b → u.ownBlock = some b ∨ H ≤ b) (hx : ∀ b, x.ownBlock = some b → b < H) : Apart v x := by
  unfold Apart
  cases e : v.ownBlock with
  | none => exact .inl rfl
  | some b =>
    right
    intro e2
    rcases hat b e with h1 | h1
    · exact apart_not h h1 e2.symm
    · have := hx b e2.symm; omega
theorem OPar.set2 {w w' : World} {lo : Nat} {s0 s1 u t2 : Value} {g : ParD} {xs : List Int} (h : OPar w lo s0 s1 u g) (hc : Chg (fun b => u.ownBlock = some b) w w') (h0 : OI 2 w' lo t2 xs)
    (hat : ∀ b, t2.ownBlock = some b → u.ownBlock = some b ∨ w.heap.size ≤ b) : OPar w' lo s0 s1 t2 (g.1, g.2.1, xs) := by
  obtain ⟨cs, ⟨k0, k1, k2⟩, k3, hd⟩ := h
  have d0u : Apart s0 u := hd 0 1 (by simp) (by simp) (by omega)
  have d0c : ∀ i, i < cs.length → Apart s0 (gv cs i) := fun i hi => hd.skip.head hi
  have duc : ∀ i, i < cs.length → Apart u (gv cs i) := fun i hi => hd.tail.head hi
  refine ⟨cs, ⟨k0.chg hc (fun b hb hs => apart_not d0u hb hs), row_chg k1 hc (fun b hb hs => own_ne k3 k1 (by decide) b hs hb), fun i hi => (k2 i hi).chg hc (fun b hb hs => apart_not (duc i hi) hs hb)⟩, h0, Dis.cons (Dis.cons hd.tail.tail fun i hi => apart_grow3 (duc i hi) hat (fun b hb => (k2.lt i hi b hb).2)) fun i hi => ?_⟩
  cases i with
  | zero => exact (apart_grow3 d0u.symm hat (fun b hb => (k0.lt b hb).2)).symm
  | succ j => exact d0c j (by simpa using hi)
theorem OPar.row2 {w : World} {lo : Nat} {s0 s1 u : Value} {g : ParD} (h : OPar w lo s0 s1 u g) : OI 2 w lo u g.2.2 := by
  obtain ⟨cs, _, k, _⟩ := h
  exact k
section
variable {B : Nat} {w0 wb w' : World} {br bg : Nat} {s0 s1 s2 t : Value} {g g' : ParD}
end
end Go.Proofs.YtkhkdnmpbfmmeaaDoor
namespace Go.Proofs.YtkhkdnmpbfmmeaaDoor
open Go.RowKit

theorem gi_ins {xs : List Int} {k : Nat} {x : Int} (hk : k ≤ xs.length) (i : Nat) : gi ((xs.take k ++ [x]) ++ xs.drop k) i = if i < k then gi xs i else if i = k then x else gi xs (i - 1) := by
  have hl : (xs.take k).length = k := by rw [List.length_take]; omega
  have hl2 : (xs.take k ++ [x]).length = k + 1 := by rw [List.length_append, hl]; rfl
  unfold gi
  simp only [List.getD_eq_getElem?_getD]
  by_cases h1 : i < k
  · rw [if_pos h1, List.getElem?_append_left (by omega), List.getElem?_append_left (by omega), List.getElem?_take, if_pos h1]
  · rw [if_neg h1]
    by_cases h2 : i = k
    · subst h2
      rw [if_pos rfl, List.getElem?_append_left (by omega), List.getElem?_append_right (by omega), hl]; simp
    · rw [if_neg h2, List.getElem?_append_right (by omega), hl2, List.getElem?_drop, show k + (i - (k + 1)) = i - 1 by omega]
theorem into_set {xs : List Int} {k : Nat} {x : Int} {N : Int} (h : setB xs N = true) (hx : 0 ≤ x ∧ x < N) (hk : k ≤ xs.length) (hlo : ∀ j, j < k → gi xs j < x) (hhi : k < xs.length → x < gi xs k) : setB ((xs.take k ++ [x]) ++ xs.drop k) N = true ∧ 1 ≤ ((xs.take k ++ [x]) ++ xs.drop k).length := by
  have hl : ((xs.take k ++ [x]) ++ xs.drop k).length = xs.length + 1 := by simp; omega
  refine ⟨setB_true.2 fun i hi => ?_, by omega⟩
  rw [hl] at hi
  have hs := setB_true.1 h
  have hr := rises_set h
  unfold setAt
  rw [gi_ins hk, gi_ins hk]
  by_cases h1 : i < k
  · rw [if_pos h1, if_pos (show i - 1 < k by omega)]
    exact hs i (by omega)
  · rw [if_neg h1]
    by_cases h2 : i = k
    · subst h2
      rw [if_pos rfl]
      refine ⟨hx.1, hx.2, fun h0 => ?_⟩
      rw [if_pos (by omega)]
      exact hlo _ (by omega)
    · rw [if_neg h2]
      obtain ⟨a, b, _⟩ := hs (i - 1) (by omega)
      refine ⟨a, b, fun _ => ?_⟩
      rw [if_neg (show ¬ i - 1 < k by omega)]
      by_cases h3 : i - 1 = k
      · rw [if_pos h3, h3]; exact hhi (by omega)
      · rw [if_neg h3]; exact hr _ _ (by omega) (by omega)
theorem ri_drop {w : World} {g n c k : Nat} {xs : List Int} (h : RI w (some ⟨g, 0, none⟩) n c xs) (hk : k ≤ n) : RI w (some ⟨g, k, none⟩) (n - k) (c - k) (xs.drop k) :=
  ⟨by rw [List.length_drop, h.1], ⟨by have := h.cap; omega, by have := h.top; omega⟩, fun i hi => by
    obtain ⟨b, off, e, hc⟩ := h.2.2 (k + i) (by omega)
    injection e with e
    injection e with e1 e2
    subst e1; subst e2
    exact ⟨_, _, rfl, by rw [gi_drop]; simpa using hc⟩⟩
theorem ri_none {w : World} {X : Option Addr} {c : Nat} (hc : c ≤ 9223372036854775807) : RI w X 0 c [] := ⟨rfl, ⟨Nat.zero_le _, hc⟩, fun i hi => absurd hi (by omega)⟩

set_option maxRecDepth 100000 in
set_option maxHeartbeats 800000 in
theorem l1Into (v : Value) (xs : List Int) (x : Int) (N : Nat) (w : World) (lo : Nat) (hlo : lo ≤ w.heap.size) (ho : OI 2 w lo v xs) (hset : setB xs (N : Int) = true) (hx : 0 ≤ x ∧ x < (N : Int)) (hN : N ≤ 256) :
    Calls Tryd.prog 103 #[v, .int .i64 x] w fun e w' => ∃ v' ys, e = .returned v' ∧ OI 2 w' lo v' ys ∧ Hid (setB ys (N : Int) = true ∧ 1 ≤ ys.length) ∧ Below w.heap.size w w' := by
  have hxl : xs.length ≤ 256 := by have := set_len hset (by omega); omega
  have HS := Lib.hid hset
  have HX := Lib.hid hx
  rcases ho.2 with ⟨rfl, hn⟩ | ⟨g, cap, cur, rfl, hrest⟩
  · have hx0 : xs = [] := List.length_eq_zero_iff.1 hn
    subst hx0
    have h0 := HS.out
    have HI := Lib.hid (into_set (k := 0) h0 hx (Nat.zero_le _) (fun j hj => absurd hj (by omega)) (fun h => absurd h (by simp)))
    clear hn hset h0 hx
    go_enter Tryd.func103, Tryd.ntmps103
    go_wp2
    go_loopw [5] (fun i wr => i = .int .i64 0 ∧ Below w.heap.size w wr) (fun _ _ => 0)
    case atStart => exact ⟨rfl, Below.refl _ _⟩
    case round =>
      obtain ⟨rfl, hb⟩ := hrel
      go_wp2_with fail
      refine (l1Copy none 0 0 [] _ _ (Nat.le_refl _) (ri_none (by omega)) (by omega)).mono ?_; rintro e w2 ⟨v2, rfl, ho2, hb2⟩
      go_wp2_with (first
        | (at_builtin; refine wpList_pushI rfl (.tmp 37) (.tmp 39) rfl _ wr.heap.size v2 [] (by rfl) ho2 _ (by rfl) (by simp) hb2.size ?_; intro v3 w3 ho3 hb3 hc3 hat3)
        | (at_builtin; refine wpList_appI rfl (.tmp 41) (.tmp 44) rfl _ wr.heap.size v3 _ (by rfl) ho3 _ _ _ [] (by rfl) (ri_none (by omega)) (by simp) (by omega) (Nat.le_trans hb2.size hb3.size) ?_; intro v4 w4 ho4 hb4 hc4 hat4))
      go_wp2
      go_ret
      exact ⟨_, _, rfl, ho4.more (Nat.le_trans hlo hb.size), HI, ((hb.trans (hb2.mono hb.size)).trans (hb3.mono hb.size)).trans (hb4.mono hb.size)⟩
  · have hr : RI w (some ⟨g, 0, none⟩) xs.length cap xs := ho.reads
    obtain ⟨n, hn⟩ : ∃ n, n = xs.length := ⟨_, rfl⟩
    rw [← hn] at hr hxl
    have HN := Lib.hid hn
    have b1 := hr.cap; have b2 := hr.top
    clear hset hx hrest hn
    rw [← HN.out]
    go_enter Tryd.func103, Tryd.ntmps103
    go_wp2
    go_loopw [5] (fun i wr => ∃ k : Nat, k ≤ n ∧ i = .int .i64 k ∧ Hid (∀ j, j < k → gi xs j < x) ∧ Below w.heap.size w wr) (fun i _ => n - (intOf i).toNat)
    case atStart => exact ⟨0, Nat.zero_le _, rfl, Lib.hid (fun j hj => absurd hj (by omega)), Below.refl _ _⟩
    case round =>
      obtain ⟨k, hk, rfl, HK, hb⟩ := hrel
      have hrr := hr.keep (keeps_below hb)
      have hki0 : (0 : Int) ≤ (k : Int) := by omega
      by_cases hlt : k < n
      · obtain ⟨b_, off, e_, hc⟩ := hrr.at_ hlt
        injection e_ with e_; injection e_ with e1_ e2_
        subst e1_; subst e2_
        rw [Nat.zero_add] at hc
        have hki : (k : Int) < (n : Int) := by omega
        by_cases hless : gi xs k < x
        · have HK2 := Lib.hid (show ∀ j, j < k + 1 → gi xs j < x from fun j hj => by
            by_cases e : j = k
            · subst e; exact hless
            · exact HK.out j (by omega))
          go_wp2
          exact ⟨⟨k + 1, by omega, by go_num, HK2, hb⟩, by simp [intOf]; omega⟩
        · cases heq : (gi xs k == x) with
          | true =>
            have HI := Lib.hid (show setB xs (N : Int) = true ∧ 1 ≤ xs.length from ⟨HS.out, by have := HN.out; omega⟩)
            have hof := ho.below hb
            rw [← HN.out] at hof
            go_wp2
            go_ret
            exact ⟨_, rfl, _, hof, HI, hb⟩
          | false =>
            have hgt : x < gi xs k := by have h3 := beq_eq_false_iff_ne.1 heq; omega
            have HI := Lib.hid (into_set (k := k) HS.out HX.out (by rw [← HN.out]; exact hk) HK.out (fun _ => hgt))
            have hkc : k ≤ cap := by omega
            have hnc : n ≤ cap := b1
            have hkn : (k : Int) ≤ (n : Int) := by omega
            have hkne : ¬ cap = k := by omega
            have hr2 := ri_drop hrr hk
            clear hgt
            go_wp2_with fail
            refine (l1Copy _ _ _ (xs.take k) _ _ (Nat.le_refl _) (hrr.take hk) (by omega)).mono ?_; rintro e w2 ⟨v2, rfl, ho2, hb2⟩
            have hl2 : (xs.take k).length ≤ 4194304 := by rw [List.length_take]; omega
            have hl3 : (xs.take k ++ [x]).length ≤ 4194304 := by rw [List.length_append, List.length_take, List.length_singleton]; omega
            go_wp2_with (first
              | (at_builtin; refine wpList_pushI rfl (.tmp 37) (.tmp 39) rfl _ wr.heap.size v2 (xs.take k) (by rfl) ho2 _ (by rfl) hl2 hb2.size ?_; intro v3 w3 ho3 hb3 hc3 hat3; have hb23 := hb2.trans hb3)
              | (at_builtin; refine wpList_appI rfl (.tmp 41) (.tmp 44) rfl _ wr.heap.size v3 _ (by rfl) ho3 _ _ _ (xs.drop k) (by rfl) (hr2.keep (keeps_below hb23)) hl3 (by omega) hb23.size ?_; intro v4 w4 ho4 hb4 hc4 hat4))
            go_wp2
            go_ret
            exact ⟨_, _, rfl, ho4.more (Nat.le_trans hlo hb.size), HI, (hb.trans (hb23.mono hb.size)).trans (hb4.mono hb.size)⟩
      · obtain rfl : k = n := by omega
        have HI := Lib.hid (into_set (k := k) HS.out HX.out (by rw [← HN.out]; exact hk) HK.out (fun h => absurd h (by have := HN.out; omega)))
        have HD := Lib.hid (show xs.drop k = [] by rw [HN.out]; simp)
        have hkc : k ≤ cap := b1
        by_cases hkne : cap = k
        · have hkne' := hkne.symm
          subst hkne'
          go_wp2_with fail
          refine (l1Copy _ _ _ (xs.take k) _ _ (Nat.le_refl _) (hrr.take hk) (by omega)).mono ?_; rintro e w2 ⟨v2, rfl, ho2, hb2⟩
          have hl2 : (xs.take k).length ≤ 4194304 := by rw [List.length_take]; omega
          have hl3 : (xs.take k ++ [x]).length ≤ 4194304 := by rw [List.length_append, List.length_take, List.length_singleton]; omega
          go_wp2_with (first
            | (at_builtin; refine wpList_pushI rfl (.tmp 37) (.tmp 39) rfl _ wr.heap.size v2 (xs.take k) (by rfl) ho2 _ (by rfl) hl2 hb2.size ?_; intro v3 w3 ho3 hb3 hc3 hat3; have hb23 := hb2.trans hb3)
            | (at_builtin; refine wpList_appI rfl (.tmp 41) (.tmp 44) rfl _ wr.heap.size v3 _ (by rfl) ho3 _ _ _ (xs.drop k) (by rfl) (by rw [HD.out]; exact ri_none (by omega)) hl3 (by omega) hb23.size ?_; intro v4 w4 ho4 hb4 hc4 hat4))
          go_wp2
          go_ret
          first | exact ⟨_, rfl, _, ho4.more (Nat.le_trans hlo hb.size), HI, (hb.trans (hb23.mono hb.size)).trans (hb4.mono hb.size)⟩ | exact ⟨_, _, rfl, ho4.more (Nat.le_trans hlo hb.size), HI, (hb.trans (hb23.mono hb.size)).trans (hb4.mono hb.size)⟩
        · skip
          go_wp2_with fail
          refine (l1Copy _ _ _ (xs.take k) _ _ (Nat.le_refl _) (hrr.take hk) (by omega)).mono ?_; rintro e w2 ⟨v2, rfl, ho2, hb2⟩
          have hl2 : (xs.take k).length ≤ 4194304 := by rw [List.length_take]; omega
          have hl3 : (xs.take k ++ [x]).length ≤ 4194304 := by rw [List.length_append, List.length_take, List.length_singleton]; omega
          go_wp2_with (first
            | (at_builtin; refine wpList_pushI rfl (.tmp 37) (.tmp 39) rfl _ wr.heap.size v2 (xs.take k) (by rfl) ho2 _ (by rfl) hl2 hb2.size ?_; intro v3 w3 ho3 hb3 hc3 hat3; have hb23 := hb2.trans hb3)
            | (at_builtin; refine wpList_appI rfl (.tmp 41) (.tmp 44) rfl _ wr.heap.size v3 _ (by rfl) ho3 _ _ _ (xs.drop k) (by rfl) (by rw [HD.out]; exact ri_none (by omega)) hl3 (by omega) hb23.size ?_; intro v4 w4 ho4 hb4 hc4 hat4))
          go_wp2
          go_ret
          first | exact ⟨_, rfl, _, ho4.more (Nat.le_trans hlo hb.size), HI, (hb.trans (hb23.mono hb.size)).trans (hb4.mono hb.size)⟩ | exact ⟨_, _, rfl, ho4.more (Nat.le_trans hlo hb.size), HI, (hb.trans (hb23.mono hb.size)).trans (hb4.mono hb.size)⟩

set_option maxRecDepth 100000 in
theorem l2Both (A Y : Option Addr) (n c m d : Nat) (xs ys : List Int) (w : World) (hr : RI w A n c xs) (hy : RI w Y m d ys) (h1 : setB xs 256 = true) (h2 : setB ys 256 = true) :
    Calls Tryd.prog 101 #[.slice A n c, .slice Y m d] w fun e w' => e = .returned (.bool true) ∧ Below w.heap.size w w' := by
  have H1 := Lib.hid (show (inR 256 0 256 && setB xs 256) = true by rw [h1]; rfl)
  have H2 := Lib.hid (show (inR 256 0 256 && setB ys 256) = true by rw [h2]; rfl)
  clear h1 h2
  go_enter Tryd.func101, Tryd.ntmps101
  go_wp2_with fail
  refine (SetOk A n c xs 256 _ hr).mono ?_; rintro e w2 ⟨rfl, q2⟩
  rw [H1.out]
  have hb2 := below_qt q2 (Below.refl w.heap.size w)
  go_wp2_with fail
  refine (SetOk Y m d ys 256 _ (hy.keep (keeps_below hb2))).mono ?_; rintro e w3 ⟨rfl, q3⟩
  rw [H2.out]
  have hb3 := below_qt q3 hb2
  go_wp2
  go_ret
  exact ⟨rfl, hb3⟩

set_option maxRecDepth 100000 in
set_option maxHeartbeats 800000 in
theorem bothOf (v : Value) (Y : Option Addr) (d : Nat) (xs : List Int) (y : Int) (N : Nat) (w : World) (lo : Nat) (hlo : lo ≤ w.heap.size) (ho : OI 2 w lo v xs) (hy : RI w Y 1 d [y]) (hset : setB xs (N : Int) = true) (hyN : 0 ≤ y ∧ y < (N : Int)) (hN : N ≤ 256) :
    Calls Tryd.prog 84 #[v, .slice Y 1 d] w fun e w' => ∃ v' ys, e = .returned v' ∧ OI 2 w' w.heap.size v' ys ∧ Hid (setB ys (N : Int) = true ∧ 1 ≤ ys.length) ∧ Below w.heap.size w w' := by
  have hxl : xs.length ≤ 256 := by have := set_len hset (by omega); omega
  obtain ⟨A, c, rfl⟩ := ho.form
  have hr := ho.reads
  have HN := Lib.hid hr.len
  have HS := Lib.hid hset
  have HY := Lib.hid hyN
  have HS2 := Lib.hid (setB_wide hset (show (N : Int) ≤ 256 by omega))
  have HY2 := Lib.hid (show setB [y] 256 = true from setB_true.2 fun i hi => by simp at hi; subst hi; exact ⟨hyN.1, by show y < 256; omega, fun h => absurd h (by omega)⟩)
  clear hset hyN
  go_enter Tryd.func84, Tryd.ntmps84
  go_wp2_with fail
  refine (l2Both _ _ _ _ _ _ _ _ _ hr hy HS2.out HY2.out).mono ?_; rintro e w2 ⟨rfl, hb2⟩
  go_wp2_with fail
  refine (l1Copy _ _ _ xs _ _ (Nat.le_refl _) (hr.keep (keeps_below hb2)) (by omega)).mono ?_; rintro e w3 ⟨v3, rfl, ho3, hb3⟩
  have hw3 := below_then hb3 hb2.size hb2
  replace ho3 := ho3.more hb2.size
  go_wp2
  go_loopw [5, 6] (fun u i wr => ∃ (k : Nat) (zs : List Int), k ≤ 1 ∧ i = .int .i64 k ∧ OI 2 wr w.heap.size u zs ∧ Hid (setB zs (N : Int) = true ∧ (k = 1 → 1 ≤ zs.length)) ∧ Below w.heap.size w wr) (fun _ i _ => 1 - (intOf i).toNat)
  case atStart => exact ⟨0, xs, by omega, rfl, ho3, Lib.hid ⟨HS.out, fun h => absurd h (by omega)⟩, hw3⟩
  case round =>
    clear ho3 hw3 hb3
    obtain ⟨k, zs, hk, rfl, ho, HZ, hb⟩ := hrel
    by_cases hlt : k < 1
    · obtain rfl : k = 0 := by omega
      obtain ⟨b_, off, rfl, hc⟩ := (hy.keep (keeps_below hb)).at_ (i := 0) (by omega)
      rw [show gi [y] 0 = y from rfl, Nat.add_zero] at hc
      go_wp2_with fail
      refine (l1Into u5 zs y N _ _ hb.size ho HZ.out.1 HY.out hN).mono ?_; rintro e w4 ⟨v4, ys, rfl, ho4, HI, hb4⟩
      go_wp2
      exact ⟨⟨1, ys, by omega, by go_num, ho4, Lib.hid ⟨HI.out.1, fun _ => HI.out.2⟩, below_then hb4 hb.size hb⟩, by simp [intOf]⟩
    · obtain rfl : k = 1 := by omega
      have HJ := Lib.hid (show setB zs (N : Int) = true ∧ 1 ≤ zs.length from ⟨HZ.out.1, HZ.out.2 rfl⟩)
      go_wp2
      go_ret
      first | exact ⟨_, rfl, _, ho, HJ, hb⟩ | exact ⟨_, _, rfl, ho, HJ, hb⟩
end Go.Proofs.YtkhkdnmpbfmmeaaDoor
namespace Go.Proofs.YtkhkdnmpbfmmeaaDoor
open Go.RowKit

theorem twoH_2_4 {P : Program} {Q : Exit → Act → World → Prop} {md : Region.Mode} {S : World → Prop} {fuel : Nat} {listed : Array Bool} {a : Act} {w : World} {o0 o1 o2 o3 o4 : Oper} {r : List Oper} (hr : Region.ready md (List.toArray (o0 :: o1 :: o2 :: o3 :: o4 :: r)) listed = [2, 4])
    (h1 : ∀ K' : Act → World → Prop, Shut (∀ a w, S w → (S w → wpAnyH P md (List.toArray (o0 :: o1 :: o2 :: o3 :: o4 :: r)) Q S fuel (listed.setIfInBounds 2 true) a w) → K' a w) → if Region.wanted o2 (yielded (List.toArray (o0 :: o1 :: o2 :: o3 :: o4 :: r)) a.tmps) = true then Oper.wp P o2 a w K' Q else K' (a.put o2.dst undef) w) (h2 : ∀ K' : Act → World → Prop, Shut (∀ a w, S w → (S w → wpAnyH P md (List.toArray (o0 :: o1 :: o2 :: o3 :: o4 :: r)) Q S fuel (listed.setIfInBounds 4 true) a w) → K' a w) → if Region.wanted o4 (yielded (List.toArray (o0 :: o1 :: o2 :: o3 :: o4 :: r)) a.tmps) = true then Oper.wp P o4 a w K' Q else K' (a.put o4.dst undef) w) : wpAnyH P md (List.toArray (o0 :: o1 :: o2 :: o3 :: o4 :: r)) Q S (fuel + 1) listed a w :=
  wpAnyH_ready (rs := [2, 4]) hr (by simp) (AllReadyH.cons rfl h1 (AllReadyH.cons rfl h2 AllReadyH.nil))
theorem twoH_2_5 {P : Program} {Q : Exit → Act → World → Prop} {md : Region.Mode} {S : World → Prop} {fuel : Nat} {listed : Array Bool} {a : Act} {w : World} {o0 o1 o2 o3 o4 o5 : Oper} {r : List Oper} (hr : Region.ready md (List.toArray (o0 :: o1 :: o2 :: o3 :: o4 :: o5 :: r)) listed = [2, 5])
    (h1 : ∀ K' : Act → World → Prop, Shut (∀ a w, S w → (S w → wpAnyH P md (List.toArray (o0 :: o1 :: o2 :: o3 :: o4 :: o5 :: r)) Q S fuel (listed.setIfInBounds 2 true) a w) → K' a w) → if Region.wanted o2 (yielded (List.toArray (o0 :: o1 :: o2 :: o3 :: o4 :: o5 :: r)) a.tmps) = true then Oper.wp P o2 a w K' Q else K' (a.put o2.dst undef) w) (h2 : ∀ K' : Act → World → Prop, Shut (∀ a w, S w → (S w → wpAnyH P md (List.toArray (o0 :: o1 :: o2 :: o3 :: o4 :: o5 :: r)) Q S fuel (listed.setIfInBounds 5 true) a w) → K' a w) → if Region.wanted o5 (yielded (List.toArray (o0 :: o1 :: o2 :: o3 :: o4 :: o5 :: r)) a.tmps) = true then Oper.wp P o5 a w K' Q else K' (a.put o5.dst undef) w) : wpAnyH P md (List.toArray (o0 :: o1 :: o2 :: o3 :: o4 :: o5 :: r)) Q S (fuel + 1) listed a w :=
  wpAnyH_ready (rs := [2, 5]) hr (by simp) (AllReadyH.cons rfl h1 (AllReadyH.cons rfl h2 AllReadyH.nil))

/-- a game of the call's own with a row of its own beside it -/
def ParX (w : World) (lo : Nat) (s0 s1 s2 v : Value) (g : ParD) (nx : List Int) : Prop := ∃ cs, OAr w lo s0 s1 cs g.1 g.2.1 ∧ OI 2 w lo s2 g.2.2 ∧ OI 2 w lo v nx ∧ Dis (s0 :: s2 :: v :: cs)
section
variable {w w' W : World} {lo : Nat} {s0 s1 s2 v t0 : Value} {g : ParD} {nx xs : List Int} {S : Nat → Prop}
theorem ParX.of (h : OPar W lo s0 s1 s2 g) (hlo : lo ≤ W.heap.size) (hc : Chg S W w) (hS : ∀ b, S b → b < lo) (hv : OI 2 w W.heap.size v nx) : ParX w lo s0 s1 s2 v g nx := by
  obtain ⟨cs, ⟨h0, h1, h2⟩, h3, hd⟩ := h
  have l0 := h0.lt; have l3 := h3.lt
  have l2 : ∀ i, i < cs.length → ∀ b, (gv cs i).ownBlock = some b → lo ≤ b ∧ b < W.heap.size := fun i hi b hb => h2.lt i hi b hb
  have sepv : ∀ u : Value, (∀ b, u.ownBlock = some b → b < W.heap.size) → Apart u v := fun u hu => apart_sep hu (fun b hb => (hv.lt b hb).1)
  have k3 := h3.chg hc (fun b hb hs => by have := (l3 b hb).1; have := hS b hs; omega)
  refine ⟨cs, OAr.chg ⟨h0, h1, h2⟩ hc hS, k3, hv.more hlo, Dis.cons (Dis.cons (Dis.cons hd.tail.tail fun i hi => (sepv _ (fun b hb => (l2 i hi b hb).2)).symm) fun i hi => ?_) fun i hi => ?_⟩
  · cases i with
    | zero => exact sepv s2 (fun b hb => (l3 b hb).2)
    | succ j => exact hd.tail.head (i := j) (by simpa using hi)
  · cases i with
    | zero => exact hd 0 1 (by simp) (by simp) (by omega)
    | succ j =>
      cases j with
      | zero => exact sepv s0 (fun b hb => (l0 b hb).2)
      | succ j => exact hd.skip.head (i := j) (by simpa using hi)
theorem ParX.chg (h : ParX w lo s0 s1 s2 v g nx) (hc : Chg S w w') (hS : ∀ b, S b → b < lo) : ParX w' lo s0 s1 s2 v g nx := by
  obtain ⟨cs, h1, h2, h3, hd⟩ := h
  exact ⟨cs, h1.chg hc hS, h2.chg hc fun b hb hs => by have := (h2.lt b hb).1; have := hS b hs; omega, h3.chg hc fun b hb hs => by have := (h3.lt b hb).1; have := hS b hs; omega, hd⟩
theorem ParX.below (h : ParX w lo s0 s1 s2 v g nx) (hb : Below w.heap.size w w') : ParX w' lo s0 s1 s2 v g nx := by
  obtain ⟨cs, h1, h2, h3, hd⟩ := h
  exact ⟨cs, h1.below hb, h2.below hb, h3.below hb, hd⟩
theorem ParX.old1 (h : ParX w lo s0 s1 s2 v g nx) : ∀ b, s1.ownBlock = some b → lo ≤ b := by
  obtain ⟨cs, ⟨k0, k1, k2⟩, k3, k4, hd⟩ := h
  exact fun b h => (World.ownsRow.lt k1 b h).1
theorem ParX.put0 (h : ParX w lo s0 s1 s2 v g nx) (hc : Chg (fun b => s0.ownBlock = some b) w w') (h0 : OI 2 w' lo t0 xs)
    (hat : ∀ b, t0.ownBlock = some b → s0.ownBlock = some b ∨ w.heap.size ≤ b) : ParX w' lo t0 s1 s2 v (xs, g.2.1, g.2.2) nx := by
  obtain ⟨cs, ⟨k0, k1, k2⟩, k3, k4, hd⟩ := h
  have d02 : Apart s0 s2 := hd 0 1 (by simp) (by simp) (by omega)
  have d0v : Apart s0 v := hd 0 2 (by simp) (by simp) (by omega)
  have d0c : ∀ i, i < cs.length → Apart s0 (gv cs i) := fun i hi => hd.skip.skip.head hi
  refine ⟨cs, ⟨h0, row_chg k1 hc (fun b hb hs => own_ne k0 k1 (by decide) b hs hb), fun i hi => (k2 i hi).chg hc (fun b hb hs => apart_not (d0c i hi) hs hb)⟩, k3.chg hc (fun b hb hs => apart_not d02 hs hb), k4.chg hc (fun b hb hs => apart_not d0v hs hb), Dis.cons hd.tail fun i hi => ?_⟩
  cases i with
  | zero => exact apart_grow2 d02 hat (fun b hb => (k3.lt b hb).2)
  | succ j =>
    cases j with
    | zero => exact apart_grow2 d0v hat (fun b hb => (k4.lt b hb).2)
    | succ j => exact apart_grow2 (d0c j (by simpa using hi)) hat (fun b hb => (k2.lt j (by simpa using hi) b hb).2)
end
theorem wp_pushX {o : Oper} {a : Act} {K : Act → World → Prop} {Q : Exit → Act → World → Prop} (s x : Operand)
    (ho : o.op = .call { callee := .builtin .append, args := #[s, x], argTypes := #[45, 45] })
    (w : World) (lo : Nat) (s0 s1 s2 v : Value) (g : ParD) (nx : List Int) (hs : a.eval s = s1) (hx : a.eval x = .slice (some ⟨w.heap.size, 0, none⟩) 1 1)
    (hlo : lo ≤ w.heap.size) (hown : ParX w lo s0 s1 s2 v g nx) (hn : g.2.1.length ≤ 4194304)
    (h : ∀ t1 w', OPar w' lo s0 t1 s2 (g.1, g.2.1 ++ [nx], g.2.2) → Below lo w w' → Chg (fun b => s1.ownBlock = some b) w w' → (∀ b, t1.ownBlock = some b → s1.ownBlock = some b ∨ w.heap.size ≤ b) → K (a.put o.dst t1) w') : o.wp Tryd.prog a (w.alloc (.cells #[v] 22)) K Q := by
  obtain ⟨i1, hi1, hy0, hy1, hy2⟩ := info_parts infoII
  obtain ⟨cs, ⟨h0, h1, h2⟩, h3, hv, hd⟩ := hown
  obtain ⟨Au, cu, rfl⟩ := hv.form
  have hba : Below w.heap.size w (w.alloc (.cells #[.slice Au nx.length cu] 22)) := below_alloc (Nat.le_refl _) (Below.refl _ _)
  have k0 := h0.below hba
  have k1 := row_below h1 hba
  have k2 := h2.below hba
  have k3 := h3.below hba
  have kv := hv.below hba
  have d02 : Apart s0 s2 := hd 0 1 (by simp) (by simp) (by omega)
  have d0v : Apart s0 (.slice Au nx.length cu) := hd 0 2 (by simp) (by simp) (by omega)
  have d2v : Apart s2 (.slice Au nx.length cu) := hd.tail 0 1 (by simp) (by simp) (by omega)
  have d0c : ∀ i, i < cs.length → Apart s0 (gv cs i) := fun i hi => hd.skip.skip.head hi
  have d2c : ∀ i, i < cs.length → Apart s2 (gv cs i) := fun i hi => hd.tail.skip.head hi
  have dvc : ∀ i, i < cs.length → Apart (.slice Au nx.length cu) (gv cs i) := fun i hi => hd.tail.tail.head hi
  have hsz : lo ≤ (w.alloc (.cells #[.slice Au nx.length cu] 22)).heap.size := by simp; omega
  refine wp_append_lies _ s x 45 ho lo 22 i1 (.slice none 0 0) 1 24 Tryd.underlying45 hi1 hy0 hy1 hy2 rfl (by decide) s1 g.2.1.length cs hs k1 ⟨w.heap.size, 0, none⟩ 1 1 [.slice Au nx.length cu] hx rfl
    (push_news ((Box.new w 22 #[.slice Au nx.length cu]).cell 0)) (by simp [Value.oneCell']) (by decide) (by unfold maxLen; omega) (by omega) hsz _ rfl ?_
  intro gg cap w' r hg hat hlt
  have hc := Chg.of_grown hg
  have n0 := k0.chg hc (fun b hb hs => own_ne k0 k1 (by decide) b hb hs)
  have n3 := k3.chg hc (fun b hb hs => own_ne k3 k1 (by decide) b hb hs)
  have n2 : OL 2 w' lo cs (gl g.2.1) := fun i hi => (k2 i hi).chg hc (fun b hb hs => own_ne (k2 i hi) k1 (by decide) b hb hs)
  have nv := kv.chg hc (fun b hb hs => own_ne kv k1 (by decide) b hb hs)
  refine h _ w' ⟨cs ++ [.slice Au nx.length cu], ⟨n0, ?_, n2.app nv (by have := row_len k1; omega)⟩, n3, ?_⟩ ((hba.mono (by omega)).trans (hc.below hsz (fun b hb => (World.ownsRow.lt k1 b hb).1))) (((Chg.refl (fun _ => False) w).alloc _).trans hc (fun _ h => h.elim) (fun _ h => h)) ?_
  · simpa using r
  · have end_ : ∀ u, Apart u (.slice Au nx.length cu) → (∀ i, i < cs.length → Apart u (gv cs i)) → ∀ i, i < (cs ++ [Value.slice Au nx.length cu]).length → Apart u (gv (cs ++ [Value.slice Au nx.length cu]) i) := fun u h1 h2 i hi => by
      rw [List.length_append, List.length_singleton] at hi
      by_cases e : i < cs.length
      · rw [gv_app_lt e]; exact h2 i e
      · obtain rfl : i = cs.length := by omega
        rw [gv_app_eq]; exact h1
    refine Dis.cons (Dis.cons (hd.tail.tail.tail.app (fun i hi => (dvc i hi).symm)) (fun i hi => end_ s2 d2v d2c i hi)) (fun i hi => ?_)
    cases i with
    | zero => exact d02
    | succ j => exact end_ s0 d0v d0c j (by simpa using hi)
  · intro b hb
    simp [Value.ownBlock] at hb
    subst hb
    rcases hat with h | h
    · exact .inl h
    · right; simp at h; omega
theorem wpList_pushX {ops : Array Oper} {rest : List Oper} {o : Oper} {a : Act} {Q : Exit → Act → World → Prop} (hgd : o.guard = none) (s x : Operand)
    (ho : o.op = .call { callee := .builtin .append, args := #[s, x], argTypes := #[45, 45] })
    (w : World) (lo : Nat) (s0 s1 s2 v : Value) (g : ParD) (nx : List Int) (hs : a.eval s = s1) (hx : a.eval x = .slice (some ⟨w.heap.size, 0, none⟩) 1 1)
    (hlo : lo ≤ w.heap.size) (hown : ParX w lo s0 s1 s2 v g nx) (hn : g.2.1.length ≤ 4194304)
    (h : ∀ t1 w', OPar w' lo s0 t1 s2 (g.1, g.2.1 ++ [nx], g.2.2) → Below lo w w' → Chg (fun b => s1.ownBlock = some b) w w' → (∀ b, t1.ownBlock = some b → s1.ownBlock = some b ∨ w.heap.size ≤ b) → wpList Tryd.prog ops Q rest (a.put o.dst t1) w') : wpList Tryd.prog ops Q (o :: rest) a (w.alloc (.cells #[v] 22)) :=
  wpList_plain hgd fun _ hK => wp_pushX s x ho w lo s0 s1 s2 v g nx hs hx hlo hown hn fun t1 w' h1 h2 h3 h4 => hK _ _ (h t1 w' h1 h2 h3 h4)

/-- a game by dice, as far as vertex k -/
def parUp (n : Int) (g : ParD) (k : Nat) : Prop := arUp n (g.1, g.2.1) k ∧ g.2.2.length = k ∧ ∀ v, v < k → 0 ≤ gi g.2.2 v ∧ gi g.2.2 v < 6
theorem parUp_zero (n : Int) : parUp n ([], [], []) 0 := ⟨arUp_zero n, rfl, fun v hv => absurd hv (by omega)⟩
theorem parUp_succ {n x0 x : Int} {g : ParD} {k : Nat} {xs : List Int} (h : parUp n g k) (h0 : 0 ≤ x0 ∧ x0 < 2) (hy : 1 ≤ xs.length) (hs : setB xs n = true) (hx : 0 ≤ x ∧ x < 6) : parUp n (g.1 ++ [x0], g.2.1 ++ [xs], g.2.2 ++ [x]) (k + 1) := by
  obtain ⟨h1, h2, h3⟩ := h
  refine ⟨arUp_succ h1 h0 hy hs, by rw [List.length_append, h2]; rfl, fun v hv => ?_⟩
  show 0 ≤ gi (g.2.2 ++ [x]) v ∧ gi (g.2.2 ++ [x]) v < 6
  by_cases e : v < k
  · rw [gi_app_lt (by omega)]; exact h3 v e
  · obtain rfl : v = k := by omega
    rw [show gi (g.2.2 ++ [x]) v = x by rw [← h2]; exact gi_app_eq]
    exact hx
theorem parUp_ok {n : Nat} {g : ParD} (h : parUp (n : Int) g n) (h1 : 1 ≤ n) (h2 : n ≤ 16) : parB g = true := by
  obtain ⟨k1, k2, k3⟩ := h
  exact parB_yes (arUp_ok k1 h1 h2) ⟨by rw [k2]; exact k1.1.symm, fun i hi => by have := k3 i (by omega); omega⟩
/-- a game by dice -/
def GameBy (w0 w : World) (b : Nat) (most : Int) (e : Ending) (w' : World) : Prop :=
  ∃ s0 s1 s2 g, e = .returned (.agg #[s0, s1, s2]) ∧ Hid (parB g = true ∧ (g.1.length : Int) ≤ most ∧ ∀ v, v < g.2.2.length → gi g.2.2 v < 6) ∧ OPar w' w.heap.size s0 s1 s2 g ∧ DiceAt w0 w' b ∧ Chg (fun y => y = b) w w'

set_option maxRecDepth 100000 in
set_option maxHeartbeats 1600000 in
theorem w9Game (w0 w : World) (b : Nat) (most : Int) (hd : DiceAt w0 w b) (h0 : 1 ≤ most) (hn : most ≤ 16) :
    Calls Tryd.prog 44 #[.pointer (some ⟨b, 0, none⟩), .int .i64 most] w (GameBy w0 w b most) := by
  have hdl := hd.lt
  have hba : Below w.heap.size w (w.alloc (.cells #[.slice none 0 0, .slice none 0 0, .slice none 0 0] 54)) := below_alloc (Nat.le_refl _) (Below.refl _ _)
  have bz := Box.new w 54 #[.slice none 0 0, .slice none 0 0, .slice none 0 0]
  go_enter Tryd.func44, Tryd.ntmps44
  go_wp2_with fail
  refine (below w0 _ b most (hd.on hba) h0).mono ?_; rintro e w1 ⟨x, rfl, hx, hd1, hc1⟩
  obtain ⟨x', rfl⟩ := Int.eq_ofNat_of_zero_le hx.1
  have hca : Chg (fun y => y = b) w w1 := chg_then ((Chg.refl _ _).alloc _) hc1
  replace bz : Box w1 w.heap.size 54 #[.slice none 0 0, .slice none 0 0, .slice none 0 0] := (hc1.block _ bz.lt (fun e => by have h3 : w.heap.size = b := e; omega)).trans bz
  have hx16 : x' < 16 := by omega
  obtain ⟨m, hxm⟩ : ∃ m : Nat, 1 + (x' : Int) = (m : Int) := ⟨x' + 1, by omega⟩
  have HX := Lib.hid (show (m : Int) ≤ most by omega)
  have hm1 : 1 ≤ m := by omega
  have hm2 : m ≤ 16 := by omega
  go_wp2
  try simp only [hxm]
  have hs1 := hca.size
  have hs01 : w.heap.size < w1.heap.size := bz.lt
  go_loopw [7] (fun i wr => ∃ (k : Nat) (s0 s1 s2 : Value) (g : ParD), k ≤ m ∧ i = .int .i64 k ∧ parUp (m : Int) g k ∧ Box wr w.heap.size 54 #[.slice none 0 0, .slice none 0 0, .slice none 0 0] ∧ Box wr w1.heap.size 54 #[s0, s1, s2] ∧ OPar wr (w1.heap.size + 1) s0 s1 s2 g ∧ DiceAt w0 wr b ∧ Chg (fun y => y = b) w wr) (fun i _ => m - (intOf i).toNat)
  case atStart => exact ⟨0, _, _, _, ([], [], []), Nat.zero_le _, rfl, parUp_zero _, bz.alloc _, Box.new _ _ _, OPar.nil _ _, hd1.on (below_alloc (Nat.le_refl _) (Below.refl _ _)), hca.alloc _⟩
  case round =>
    clear bz hd1 hca hc1 hd hba
    obtain ⟨k, s0, s1, s2, g, hk, rfl, hz, bz, bx, ho, hdr, hc⟩ := hrel
    have HZ := Lib.hid hz
    have hz1 := hz.1.1; have hz2 := hz.1.2.1; have hz3 := hz.2.1
    clear hz
    by_cases hlt : k < m
    · have hki : (k : Int) < (m : Int) := by omega
      obtain ⟨A0, c0, A1, c1, A2, c2, rfl, rfl, rfl⟩ := ho.form
      have hkz0 : g.1.length ≤ 4194304 := by have h3 : g.1.length = k := hz1; omega
      have hkz1 : g.2.1.length ≤ 4194304 := by have h3 : g.2.1.length = k := hz2; omega
      have hkz2 : g.2.2.length ≤ 4194304 := by omega
      clear hz1 hz2 hz3
      generalize wr = wo at *
      have hbo := bx.lt
      have hso := hc.size
      have hbw1 : b < w1.heap.size := by omega
      have hbE : Below wo.heap.size wo (wo.alloc (.cells #[] 2)) := below_alloc (Nat.le_refl _) (Below.refl _ _)
      have hem := OI.empty (E := 2) (w := wo) (B := wo.heap.size) (Nat.le_refl _)
      have hcw3 : Chg (fun y => y = b) wo (wo.alloc (.cells #[] 2)) := (Chg.refl _ _).alloc _
      go_wp2_with fail
      refine (below w0 _ b 3 (hdr.on hbE) (by omega)).mono ?_; rintro e w4 ⟨x2, rfl, hx2, hd4, hc4⟩
      have hin4 := hem.chg hc4 (fun y hy e => by have h1 := hem.lt y hy; have h3 : y = b := e; omega)
      have hcw4 := chg_then hcw3 hc4
      obtain ⟨t0, ht0⟩ : ∃ t0 : Nat, 1 + x2 = (t0 : Int) := ⟨(1 + x2).toNat, by omega⟩
      have ht1 : 1 ≤ t0 := by omega
      have ht3 : t0 ≤ 3 := by omega
      clear hc4 hem hcw3 hbE
      go_wp2
      try simp only [ht0]
      go_loopw [8, 9] (fun u i wr => ∃ (t : Nat) (xs : List Int), t ≤ 3 ∧ i = .int .i64 t ∧ Hid (setB xs (m : Int) = true ∧ (t = t0 ∨ 1 ≤ xs.length)) ∧ OI 2 wr wo.heap.size u xs ∧ DiceAt w0 wr b ∧ Chg (fun y => y = b) wo wr) (fun _ i _ => (intOf i).toNat)
      case atStart => exact ⟨t0, [], ht3, rfl, Lib.hid ⟨setB_none _, .inl rfl⟩, hin4, hd4, hcw4⟩
      case round =>
        clear hin4 hd4 hcw4
        obtain ⟨t, xs, ht, rfl, HS0, hin, hdr2, hcw⟩ := hrel
        by_cases htp : 0 < t
        · have hti : (0 : Int) < (t : Int) := by omega
          go_wp2_with fail
          refine (below w0 _ b m hdr2 (by omega)).mono ?_; rintro e w5 ⟨y, rfl, hy, hd5, hc5⟩
          have hin5 := hin.chg hc5 (fun y hy e => by have h1 := hin.lt y hy; have h3 : y = b := e; omega)
          have hcw5 := chg_then hcw hc5
          have HY := Lib.hid hy
          have hbA : Below w5.heap.size w5 (w5.alloc (.cells #[.int .i64 y] 2)) := below_alloc (Nat.le_refl _) (Below.refl _ _)
          have hq1 : RI (w5.alloc (.cells #[.int .i64 y] 2)) (some ⟨w5.heap.size, 0, none⟩) 1 1 [y] := RI.one1 ((Box.new w5 2 #[.int .i64 y]).cell 0)
          have hs5 := hcw5.size
          have hlA : wo.heap.size ≤ (w5.alloc (.cells #[.int .i64 y] 2)).heap.size := Nat.le_trans hs5 hbA.size
          clear hy
          go_wp2_with fail
          refine (bothOf u8 _ _ xs y m _ wo.heap.size hlA (hin5.below hbA) hq1 HS0.out.1 HY.out (by omega)).mono ?_; rintro e w6 ⟨v6, ys, rfl, ho6, HS6, hb6⟩
          have hd6 := (hd5.on hbA).on hb6
          have hcw6 := (hcw5.then_below hbA hs5).then_below hb6 hlA
          have HS7 := ho6.more hlA
          clear hin hin5 hdr2 hd5 hcw hcw5 hc5 hbA hq1 hb6 ho6
          go_wp2
          exact ⟨⟨t - 1, ys, by omega, by rw [show ((t - 1 : Nat) : Int) = (t : Int) - 1 by omega], Lib.hid ⟨HS6.out.1, .inr HS6.out.2⟩, HS7, hd6, hcw6⟩, by simp [intOf]; omega⟩
        · obtain rfl : t = 0 := by omega
          rw [show ((0 : Nat) : Int) = 0 from rfl]
          have HS := Lib.hid (show setB xs (m : Int) = true ∧ 1 ≤ xs.length from ⟨HS0.out.1, HS0.out.2.resolve_left (by omega)⟩)
          obtain ⟨Av, cv, rfl⟩ := hin.form
          have hlo : w1.heap.size + 1 ≤ wo.heap.size := hbo
          have hop := ParX.of ho hlo hcw (fun y hy => by have h3 : y = b := hy; omega) hin
          have bz2 : Box wr w.heap.size 54 #[.slice none 0 0, .slice none 0 0, .slice none 0 0] := (hcw.block _ bz.lt (fun e => by have h3 : w.heap.size = b := e; omega)).trans bz
          have bx2 : Box wr w1.heap.size 54 #[.slice A0 g.1.length c0, .slice A1 g.2.1.length c1, .slice A2 g.2.2.length c2] := (hcw.block _ bx.lt (fun e => by have h3 : w1.heap.size = b := e; omega)).trans bx
          have hcc := hc.push hcw (fun y hy => .inl hy)
          have hlw : w1.heap.size + 1 ≤ wr.heap.size := by have := hcw.size; omega
          clear hin hcw ho bz bx hc hbo HS0 ht1 ht3 ht0
          go_wp2_with fail
          refine wp_region_held_drew (S := fun _ => True) (by kernel_rfl) trivial (fun hHeld => ?_)
          replace hop := hop.below (Below.drew (Below.refl _ _))
          replace bz2 : Box wr.drew _ _ _ := bz2
          replace bx2 : Box wr.drew _ _ _ := bx2
          replace hdr2 := hdr2.on (Below.drew (Below.refl _ _))
          replace hcc : Chg (fun y => y = b) w wr.drew := hcc.drewN 1
          replace hlw : w1.heap.size + 1 ≤ wr.drew.heap.size := hlw
          generalize wr.drew = wD at *
          have g0 := bx2.c0
          refine takeH0 (v := ?_) (by kernel_rfl) (by kernel_rfl) (by kernel_rfl) (fun _ _ _ h => h) hHeld (by rfl) ?_ ?_
          rotate_left; · (intro w hSw; (try dsimp only at hSw); go_simp; try with_reducible rfl)
          try simp only [Act.put, List.setIfInBounds_toArray, List.set_cons_zero, List.set_cons_succ]
          refine takeH1 (v := ?_) (by kernel_rfl) (by kernel_rfl) (by kernel_rfl) (fun _ _ _ h => h) hHeld (by rfl) ?_ ?_
          rotate_left; · (intro w hSw; (try dsimp only at hSw); go_simp; try with_reducible rfl)
          try simp only [Act.put, List.setIfInBounds_toArray, List.set_cons_zero, List.set_cons_succ]
          refine takeH3 (v := ?_) (by kernel_rfl) (by kernel_rfl) (by kernel_rfl) (fun _ _ _ h => h) hHeld (by rfl) ?_ ?_
          rotate_left; · (intro w hSw; (try dsimp only at hSw); go_simp; try with_reducible rfl)
          try simp only [Act.put, List.setIfInBounds_toArray, List.set_cons_zero, List.set_cons_succ]
          refine twoH_2_4 (by kernel_rfl) (fun K hK => ?_) (fun K hK => ?_)
          · go_simp
            refine hK.out _ _ (trivial) (fun hHeld => ?_)
            clear hK K
            try simp only [Act.put, List.setIfInBounds_toArray, List.set_cons_zero, List.set_cons_succ]
            refine callH4 (by kernel_rfl) (fun K hK => ?_)
            go_simp
            go_at_call 45
            refine (below w0 _ b 2 hdr2 (by omega)).mono ?_; rintro e w6 ⟨x, rfl, hx6, hd6, hc6⟩
            have bx6 : Box w6 w1.heap.size 54 #[.slice A0 g.1.length c0, .slice A1 g.2.1.length c1, .slice A2 g.2.2.length c2] := (hc6.block _ bx2.lt (fun e => by have h3 : w1.heap.size = b := e; omega)).trans bx2
            have bz6 : Box w6 w.heap.size 54 #[.slice none 0 0, .slice none 0 0, .slice none 0 0] := (hc6.block _ bz2.lt (fun e => by have h3 : w.heap.size = b := e; omega)).trans bz2
            have g6 := bx6.c0
            have hop6 := hop.chg hc6 (fun y hy => by have h3 : y = b := hy; omega)
            have hcc6 := chg_then hcc hc6
            have hl6 : w1.heap.size + 1 ≤ w6.heap.size := Nat.le_trans hlw hc6.size
            go_wp2_with fail
            refine hK.out _ _ (trivial) (fun hHeld => ?_)
            clear hK K
            try simp only [Act.put, List.setIfInBounds_toArray, List.set_cons_zero, List.set_cons_succ]
            refine callH5 (by kernel_rfl) (fun K hK => ?_)
            go_simp
            refine hK.out _ _ (trivial) (fun hHeld => ?_)
            clear hK K
            try simp only [Act.put, List.setIfInBounds_toArray, List.set_cons_zero, List.set_cons_succ]
            refine callH6 (by kernel_rfl) (fun K hK => ?_)
            have hbA : Below w6.heap.size w6 (w6.alloc (.cells #[.int .i64 x] 2)) := below_alloc (Nat.le_refl _) (Below.refl _ _)
            have hq1 : RI (w6.alloc (.cells #[.int .i64 x] 2)) (some ⟨w6.heap.size, 0, none⟩) 1 1 [x] := RI.one1 ((Box.new w6 2 #[.int .i64 x]).cell 0)
            have hopA := hop6.below hbA
            have hoA : OI 2 (w6.alloc (.cells #[.int .i64 x] 2)) (w1.heap.size + 1) (.slice A0 g.1.length c0) g.1 := by obtain ⟨cs, h1, _⟩ := hopA; exact h1.1
            have hlA : w1.heap.size + 1 ≤ (w6.alloc (.cells #[.int .i64 x] 2)).heap.size := Nat.le_trans hl6 hbA.size
            refine step_of_list (by rfl) (wp_appI (.tmp 36) (.tmp 39) (by rfl) (w6.alloc (.cells #[.int .i64 x] 2)) (w1.heap.size + 1) (.slice A0 g.1.length c0) g.1 (by rfl) hoA (some ⟨w6.heap.size, 0, none⟩) 1 1 [x] (by rfl) hq1 hkz0 (by omega) hlA ?_)
            intro v7 w7 ho7 hb7 hc7 hat7
            obtain ⟨A7, c7, h1e⟩ := ho7.form
            have h1f : v7 = .slice A7 (g.1.length + 1) c7 := by rw [h1e]; simp
            clear h1e
            subst h1f
            have hown : ∀ y, (Value.slice A0 g.1.length c0).ownBlock = some y → w1.heap.size + 1 ≤ y := fun y hy => (hoA.lt y hy).1
            have hop7 := hopA.put0 hc7 ho7 hat7
            have bx7 : Box w7 w1.heap.size 54 #[.slice A0 g.1.length c0, .slice A1 g.2.1.length c1, .slice A2 g.2.2.length c2] := (hc7.block _ (bx6.alloc _).lt (fun e => by have := hown _ e; omega)).trans (bx6.alloc _)
            have bz7 : Box w7 w.heap.size 54 #[.slice none 0 0, .slice none 0 0, .slice none 0 0] := (hc7.block _ (bz6.alloc _).lt (fun e => by have := hown _ e; omega)).trans (bz6.alloc _)
            have hd7 := (hd6.on hbA).chg hc7 (fun y hy => by have := hown y hy; omega)
            have hcc7 := (hcc6.then_below hbA (by omega)).push hc7 (fun y hy => .inr (by have := hown y hy; omega))
            have g7 := bx7.c0
            have f7 := bx7.hot 0
            have hl7 := Nat.le_trans hlA hc7.size
            clear hop6 hopA hoA hq1 bx6 bz6 hd6 hcc6 hc6 hbA hat7
            refine hK.out _ _ (trivial) (fun hHeld => ?_)
            clear hK K
            try simp only [Act.put, List.setIfInBounds_toArray, List.set_cons_zero, List.set_cons_succ]
            refine takeH7 (v := ?_) (by kernel_rfl) (by kernel_rfl) (by kernel_rfl) (fun _ _ _ h => h) hHeld (by rfl) ?_ ?_
            rotate_left; · (intro w hSw; (try dsimp only at hSw); go_simp; try with_reducible rfl)
            try simp only [Act.put, List.setIfInBounds_toArray, List.set_cons_zero, List.set_cons_succ]
            refine takeH8 (v := ?_) (by kernel_rfl) (by kernel_rfl) (by kernel_rfl) (fun _ _ _ h => h) hHeld (by rfl) ?_ ?_
            rotate_left; · (intro w hSw; (try dsimp only at hSw); go_simp; try with_reducible rfl)
            try simp only [Act.put, List.setIfInBounds_toArray, List.set_cons_zero, List.set_cons_succ]
            refine callH9 (by kernel_rfl) (fun K hK => ?_)
            go_simp
            refine hK.out _ _ (trivial) (fun hHeld => ?_)
            clear hK K
            try simp only [Act.put, List.setIfInBounds_toArray, List.set_cons_zero, List.set_cons_succ]
            refine wpAnyH_done (by kernel_rfl) ?_ _
            have ch8 : Chg (fun y => y = w1.heap.size) w7 (w7.setCell ⟨w1.heap.size, 0, none⟩ (.slice A7 (g.1.length + 1) c7)) := Chg.set ⟨w1.heap.size, 0, none⟩ (.slice A7 (g.1.length + 1) c7)
            have bx8 : Box (w7.setCell ⟨w1.heap.size, 0, none⟩ (.slice A7 (g.1.length + 1) c7)) w1.heap.size 54 #[.slice A7 (g.1.length + 1) c7, .slice A1 g.2.1.length c1, .slice A2 g.2.2.length c2] := bx7.set_ 0 (.slice A7 (g.1.length + 1) c7)
            have bz8 : Box (w7.setCell ⟨w1.heap.size, 0, none⟩ (.slice A7 (g.1.length + 1) c7)) w.heap.size 54 #[.slice none 0 0, .slice none 0 0, .slice none 0 0] := bz7.far (by show w.heap.size ≠ w1.heap.size; omega) _
            have hop8 := hop7.chg ch8 (fun y hy => by have h3 : y = w1.heap.size := hy; omega)
            have hd8 := hd7.chg ch8 (fun y hy => by have h3 : y = w1.heap.size := hy; omega)
            have hcc8 := hcc7.push ch8 (fun y hy => .inr (by have h3 : y = w1.heap.size := hy; omega))
            have g18 := bx8.c1
            have hl8 := Nat.le_trans hl7 ch8.size
            have HX0 := Lib.hid hx6
            clear hop7 hd7 hcc7 ch8 bx7 bz7 g7 f7 hb7 hc7 ho7
            generalize (w7.setCell ⟨w1.heap.size, 0, none⟩ (.slice A7 (g.1.length + 1) c7)) = w8 at *
            obtain ⟨B7, hB7⟩ : ∃ z, z = A7 := ⟨_, rfl⟩
            obtain ⟨d7, hd7⟩ : ∃ z, z = c7 := ⟨_, rfl⟩
            obtain ⟨x0, hx0⟩ : ∃ z, z = x := ⟨_, rfl⟩
            subst hB7; subst hd7; subst hx0
            go_wp2_with (at_builtin; go_loud (refine wpList_pushX rfl (.tmp 45) (.tmp 47) (by rfl) w8 (w1.heap.size + 1) (.slice B7 (g.1.length + 1) d7) (.slice A1 g.2.1.length c1) (.slice A2 g.2.2.length c2) (.slice Av xs.length cv) (g.1 ++ [x0], g.2.1, g.2.2) xs (by rfl) (by rfl) hl8 hop8 hkz1 ?_; intro t1 w9 ho9 hb9 hc9 hat9; obtain ⟨A8, c8, A9, c9, A10, c10, h0e9, h1e9, h2e9⟩ := ho9.form; have h1e : t1 = .slice A9 (g.2.1.length + 1) c9 := (by rw [h1e9]; simp); clear h0e9 h1e9 h2e9 hat9; subst h1e; have hown9 : ∀ y, (Value.slice A1 g.2.1.length c1).ownBlock = some y → w1.heap.size + 1 ≤ y := fun y hy => hop8.old1 y hy; have bx9 : Box w9 w1.heap.size 54 #[.slice B7 (g.1.length + 1) d7, .slice A1 g.2.1.length c1, .slice A2 g.2.2.length c2] := (hc9.block _ bx8.lt (fun e => by have := hown9 _ e; omega)).trans bx8; have g9 := bx9.c1; have f9 := bx9.hot 1))
            have hl9 := hc9.size
            have ch9 : Chg (fun y => y = w1.heap.size) w9 (w9.setCell ⟨w1.heap.size, 1, none⟩ (.slice A9 (g.2.1.length + 1) c9)) := Chg.set ⟨w1.heap.size, 1, none⟩ (.slice A9 (g.2.1.length + 1) c9)
            have bz9 : Box (w9.setCell ⟨w1.heap.size, 1, none⟩ (.slice A9 (g.2.1.length + 1) c9)) w.heap.size 54 #[.slice none 0 0, .slice none 0 0, .slice none 0 0] := Box.far ((hc9.block _ bz8.lt (fun e => by have := hown9 _ e; omega)).trans bz8) (by show w.heap.size ≠ w1.heap.size; omega) _
            have bx10 : Box (w9.setCell ⟨w1.heap.size, 1, none⟩ (.slice A9 (g.2.1.length + 1) c9)) w1.heap.size 54 #[.slice B7 (g.1.length + 1) d7, .slice A9 (g.2.1.length + 1) c9, .slice A2 g.2.2.length c2] := bx9.set_ 1 (.slice A9 (g.2.1.length + 1) c9)
            have ho10 := ho9.chg ch9 (fun y hy => by have h3 : y = w1.heap.size := hy; omega)
            have hd10 := (hd8.chg hc9 (fun y hy => by have := hown9 y hy; omega)).chg ch9 (fun y hy => by have h3 : y = w1.heap.size := hy; omega)
            have hcc10 := (hcc8.push hc9 (fun y hy => .inr (by have := hown9 y hy; omega))).push ch9 (fun y hy => .inr (by have h3 : y = w1.heap.size := hy; omega))
            have hl10 := ch9.size
            clear ho9 hb9 hc9 bx9 bx8 bz8 hop8 hd8 hcc8 ch9 g9 f9 g18
            generalize (w9.setCell ⟨w1.heap.size, 1, none⟩ (.slice A9 (g.2.1.length + 1) c9)) = w10 at *
            go_wp2_with fail
            refine wp_region_held_drew (S := fun _ => True) (by kernel_rfl) trivial (fun hHeld => ?_)
            have hoD : OPar w10.drew (w1.heap.size + 1) (.slice B7 (g.1.length + 1) d7) (.slice A9 (g.2.1.length + 1) c9) (.slice A2 g.2.2.length c2) (g.1 ++ [x0], g.2.1 ++ [xs], g.2.2) := ho10.below (Below.drew (Below.refl _ _))
            have bzD : Box w10.drew w.heap.size 54 #[.slice none 0 0, .slice none 0 0, .slice none 0 0] := bz9
            have bxD : Box w10.drew w1.heap.size 54 #[.slice B7 (g.1.length + 1) d7, .slice A9 (g.2.1.length + 1) c9, .slice A2 g.2.2.length c2] := bx10
            have hdD := hd10.on (Below.drew (Below.refl w10.heap.size w10))
            have hccD : Chg (fun y => y = b) w w10.drew := hcc10.drewN 1
            have hlw : w1.heap.size + 1 ≤ w10.drew.heap.size := Nat.le_trans (Nat.le_trans hl8 hl9) hl10
            clear ho10 bz9 bx10 hd10 hcc10
            generalize w10.drew = wE at *
            have g2D := bxD.c2
            clear hx6
            refine takeH0 (v := ?_) (by kernel_rfl) (by kernel_rfl) (by kernel_rfl) (fun _ _ _ h => h) hHeld (by rfl) ?_ ?_
            rotate_left; · (intro w hSw; (try dsimp only at hSw); go_simp; try with_reducible rfl)
            try simp only [Act.put, List.setIfInBounds_toArray, List.set_cons_zero, List.set_cons_succ]
            refine takeH2 (v := ?_) (by kernel_rfl) (by kernel_rfl) (by kernel_rfl) (fun _ _ _ h => h) hHeld (by rfl) ?_ ?_
            rotate_left; · (intro w hSw; (try dsimp only at hSw); go_simp; try with_reducible rfl)
            try simp only [Act.put, List.setIfInBounds_toArray, List.set_cons_zero, List.set_cons_succ]
            refine twoH_1_3 (by kernel_rfl) (fun K hK => ?_) (fun K hK => ?_)
            · go_simp
              refine hK.out _ _ (trivial) (fun hHeld => ?_)
              clear hK K
              try simp only [Act.put, List.setIfInBounds_toArray, List.set_cons_zero, List.set_cons_succ]
              refine callH3 (by kernel_rfl) (fun K hK => ?_)
              go_simp
              go_at_call 45
              refine (below w0 _ b 6 hdD (by omega)).mono ?_; rintro e w6 ⟨x, rfl, hx6, hd6, hc6⟩
              have bx6 : Box w6 w1.heap.size 54 #[.slice B7 (g.1.length + 1) d7, .slice A9 (g.2.1.length + 1) c9, .slice A2 g.2.2.length c2] := (hc6.block _ bxD.lt (fun e => by have h3 : w1.heap.size = b := e; omega)).trans bxD
              have bz6 : Box w6 w.heap.size 54 #[.slice none 0 0, .slice none 0 0, .slice none 0 0] := (hc6.block _ bzD.lt (fun e => by have h3 : w.heap.size = b := e; omega)).trans bzD
              have g6 := bx6.c2
              have hop6 := hoD.chg hc6 (fun y hy => by have h3 : y = b := hy; omega)
              have hcc6 := chg_then hccD hc6
              have hl6 : w1.heap.size + 1 ≤ w6.heap.size := Nat.le_trans hlw hc6.size
              go_wp2_with fail
              refine hK.out _ _ (trivial) (fun hHeld => ?_)
              clear hK K
              try simp only [Act.put, List.setIfInBounds_toArray, List.set_cons_zero, List.set_cons_succ]
              refine callH4 (by kernel_rfl) (fun K hK => ?_)
              go_simp
              refine hK.out _ _ (trivial) (fun hHeld => ?_)
              clear hK K
              try simp only [Act.put, List.setIfInBounds_toArray, List.set_cons_zero, List.set_cons_succ]
              refine callH5 (by kernel_rfl) (fun K hK => ?_)
              have hbA : Below w6.heap.size w6 (w6.alloc (.cells #[.int .i64 x] 2)) := below_alloc (Nat.le_refl _) (Below.refl _ _)
              have hq1 : RI (w6.alloc (.cells #[.int .i64 x] 2)) (some ⟨w6.heap.size, 0, none⟩) 1 1 [x] := RI.one1 ((Box.new w6 2 #[.int .i64 x]).cell 0)
              have hopA := hop6.below hbA
              have hoA : OI 2 (w6.alloc (.cells #[.int .i64 x] 2)) (w1.heap.size + 1) (.slice A2 g.2.2.length c2) g.2.2 := hopA.row2
              have hlA : w1.heap.size + 1 ≤ (w6.alloc (.cells #[.int .i64 x] 2)).heap.size := Nat.le_trans hl6 hbA.size
              refine step_of_list (by rfl) (wp_appI (.tmp 52) (.tmp 55) (by rfl) (w6.alloc (.cells #[.int .i64 x] 2)) (w1.heap.size + 1) (.slice A2 g.2.2.length c2) g.2.2 (by rfl) hoA (some ⟨w6.heap.size, 0, none⟩) 1 1 [x] (by rfl) hq1 hkz2 (by omega) hlA ?_)
              intro v7 w7 ho7 hb7 hc7 hat7
              obtain ⟨A7, c7, h1e⟩ := ho7.form
              have h1f : v7 = .slice A7 (g.2.2.length + 1) c7 := by rw [h1e]; simp
              clear h1e
              subst h1f
              have hown : ∀ y, (Value.slice A2 g.2.2.length c2).ownBlock = some y → w1.heap.size + 1 ≤ y := fun y hy => (hoA.lt y hy).1
              have hop7 := hopA.set2 hc7 ho7 hat7
              have bx7 : Box w7 w1.heap.size 54 #[.slice B7 (g.1.length + 1) d7, .slice A9 (g.2.1.length + 1) c9, .slice A2 g.2.2.length c2] := (hc7.block _ (bx6.alloc _).lt (fun e => by have := hown _ e; omega)).trans (bx6.alloc _)
              have bz7 : Box w7 w.heap.size 54 #[.slice none 0 0, .slice none 0 0, .slice none 0 0] := (hc7.block _ (bz6.alloc _).lt (fun e => by have := hown _ e; omega)).trans (bz6.alloc _)
              have hd7 := (hd6.on hbA).chg hc7 (fun y hy => by have := hown y hy; omega)
              have hcc7 := (hcc6.then_below hbA (by omega)).push hc7 (fun y hy => .inr (by have := hown y hy; omega))
              have g7 := bx7.c2
              have f7 := bx7.hot 2
              have hl7 := Nat.le_trans hlA hc7.size
              clear hop6 hopA hoA hq1 bx6 bz6 hd6 hcc6 hc6 hbA hat7
              refine hK.out _ _ (trivial) (fun hHeld => ?_)
              clear hK K
              try simp only [Act.put, List.setIfInBounds_toArray, List.set_cons_zero, List.set_cons_succ]
              refine takeH6 (v := ?_) (by kernel_rfl) (by kernel_rfl) (by kernel_rfl) (fun _ _ _ h => h) hHeld (by rfl) ?_ ?_
              rotate_left; · (intro w hSw; (try dsimp only at hSw); go_simp; try with_reducible rfl)
              try simp only [Act.put, List.setIfInBounds_toArray, List.set_cons_zero, List.set_cons_succ]
              refine callH7 (by kernel_rfl) (fun K hK => ?_)
              go_simp
              refine hK.out _ _ (trivial) (fun hHeld => ?_)
              clear hK K
              try simp only [Act.put, List.setIfInBounds_toArray, List.set_cons_zero, List.set_cons_succ]
              refine wpAnyH_done (by kernel_rfl) ?_ _
              have ch8 : Chg (fun y => y = w1.heap.size) w7 (w7.setCell ⟨w1.heap.size, 2, none⟩ (.slice A7 (g.2.2.length + 1) c7)) := Chg.set ⟨w1.heap.size, 2, none⟩ (.slice A7 (g.2.2.length + 1) c7)
              have bxF : Box (w7.setCell ⟨w1.heap.size, 2, none⟩ (.slice A7 (g.2.2.length + 1) c7)) w1.heap.size 54 #[.slice B7 (g.1.length + 1) d7, .slice A9 (g.2.1.length + 1) c9, .slice A7 (g.2.2.length + 1) c7] := bx7.set_ 2 (.slice A7 (g.2.2.length + 1) c7)
              have bzF : Box (w7.setCell ⟨w1.heap.size, 2, none⟩ (.slice A7 (g.2.2.length + 1) c7)) w.heap.size 54 #[.slice none 0 0, .slice none 0 0, .slice none 0 0] := bz7.far (by show w.heap.size ≠ w1.heap.size; omega) _
              have hoF := hop7.chg ch8 (fun y hy => by have h3 : y = w1.heap.size := hy; omega)
              have hdF := hd7.chg ch8 (fun y hy => by have h3 : y = w1.heap.size := hy; omega)
              have hccF := hcc7.push ch8 (fun y hy => .inr (by have h3 : y = w1.heap.size := hy; omega))
              go_wp2
              exact ⟨⟨k + 1, _, _, _, (g.1 ++ [x0], g.2.1 ++ [xs], g.2.2 ++ [x]), by omega, by go_num, parUp_succ HZ.out HX0.out HS.out.2 HS.out.1 hx6, bzF, bxF, hoF, hdF, hccF⟩, by simp [intOf]; omega⟩
            · go_simp
              go_at_call 45
              refine (below w0 _ b 6 hdD (by omega)).mono ?_; rintro e w6 ⟨x, rfl, hx6, hd6, hc6⟩
              have bx6 : Box w6 w1.heap.size 54 #[.slice B7 (g.1.length + 1) d7, .slice A9 (g.2.1.length + 1) c9, .slice A2 g.2.2.length c2] := (hc6.block _ bxD.lt (fun e => by have h3 : w1.heap.size = b := e; omega)).trans bxD
              have bz6 : Box w6 w.heap.size 54 #[.slice none 0 0, .slice none 0 0, .slice none 0 0] := (hc6.block _ bzD.lt (fun e => by have h3 : w.heap.size = b := e; omega)).trans bzD
              have g6 := bx6.c2
              have hop6 := hoD.chg hc6 (fun y hy => by have h3 : y = b := hy; omega)
              have hcc6 := chg_then hccD hc6
              have hl6 : w1.heap.size + 1 ≤ w6.heap.size := Nat.le_trans hlw hc6.size
              have g6A : ∀ o, (w6.alloc o).cell? ⟨w1.heap.size, 2, none⟩ = some (.slice A2 g.2.2.length c2) := fun o => keepA g6
              go_wp2_with fail
              refine hK.out _ _ (trivial) (fun hHeld => ?_)
              clear hK K
              try simp only [Act.put, List.setIfInBounds_toArray, List.set_cons_zero, List.set_cons_succ]
              refine twoH_1_4 (by kernel_rfl) (fun K hK => ?_) (fun K hK => ?_)
              · go_simp
                refine hK.out _ _ (trivial) (fun hHeld => ?_)
                clear hK K
                try simp only [Act.put, List.setIfInBounds_toArray, List.set_cons_zero, List.set_cons_succ]
                refine callH4 (by kernel_rfl) (fun K hK => ?_)
                go_simp
                refine hK.out _ _ (trivial) (fun hHeld => ?_)
                clear hK K
                try simp only [Act.put, List.setIfInBounds_toArray, List.set_cons_zero, List.set_cons_succ]
                refine callH5 (by kernel_rfl) (fun K hK => ?_)
                have hbA : Below w6.heap.size w6 (w6.alloc (.cells #[.int .i64 x] 2)) := below_alloc (Nat.le_refl _) (Below.refl _ _)
                have hq1 : RI (w6.alloc (.cells #[.int .i64 x] 2)) (some ⟨w6.heap.size, 0, none⟩) 1 1 [x] := RI.one1 ((Box.new w6 2 #[.int .i64 x]).cell 0)
                have hopA := hop6.below hbA
                have hoA : OI 2 (w6.alloc (.cells #[.int .i64 x] 2)) (w1.heap.size + 1) (.slice A2 g.2.2.length c2) g.2.2 := hopA.row2
                have hlA : w1.heap.size + 1 ≤ (w6.alloc (.cells #[.int .i64 x] 2)).heap.size := Nat.le_trans hl6 hbA.size
                refine step_of_list (by rfl) (wp_appI (.tmp 52) (.tmp 55) (by rfl) (w6.alloc (.cells #[.int .i64 x] 2)) (w1.heap.size + 1) (.slice A2 g.2.2.length c2) g.2.2 (by rfl) hoA (some ⟨w6.heap.size, 0, none⟩) 1 1 [x] (by rfl) hq1 hkz2 (by omega) hlA ?_)
                intro v7 w7 ho7 hb7 hc7 hat7
                obtain ⟨A7, c7, h1e⟩ := ho7.form
                have h1f : v7 = .slice A7 (g.2.2.length + 1) c7 := by rw [h1e]; simp
                clear h1e
                subst h1f
                have hown : ∀ y, (Value.slice A2 g.2.2.length c2).ownBlock = some y → w1.heap.size + 1 ≤ y := fun y hy => (hoA.lt y hy).1
                have hop7 := hopA.set2 hc7 ho7 hat7
                have bx7 : Box w7 w1.heap.size 54 #[.slice B7 (g.1.length + 1) d7, .slice A9 (g.2.1.length + 1) c9, .slice A2 g.2.2.length c2] := (hc7.block _ (bx6.alloc _).lt (fun e => by have := hown _ e; omega)).trans (bx6.alloc _)
                have bz7 : Box w7 w.heap.size 54 #[.slice none 0 0, .slice none 0 0, .slice none 0 0] := (hc7.block _ (bz6.alloc _).lt (fun e => by have := hown _ e; omega)).trans (bz6.alloc _)
                have hd7 := (hd6.on hbA).chg hc7 (fun y hy => by have := hown y hy; omega)
                have hcc7 := (hcc6.then_below hbA (by omega)).push hc7 (fun y hy => .inr (by have := hown y hy; omega))
                have g7 := bx7.c2
                have f7 := bx7.hot 2
                have hl7 := Nat.le_trans hlA hc7.size
                clear hop6 hopA hoA hq1 bx6 bz6 hd6 hcc6 hc6 hbA hat7
                refine hK.out _ _ (trivial) (fun hHeld => ?_)
                clear hK K
                try simp only [Act.put, List.setIfInBounds_toArray, List.set_cons_zero, List.set_cons_succ]
                refine takeH6 (v := ?_) (by kernel_rfl) (by kernel_rfl) (by kernel_rfl) (fun _ _ _ h => h) hHeld (by rfl) ?_ ?_
                rotate_left; · (intro w hSw; (try dsimp only at hSw); go_simp; try with_reducible rfl)
                try simp only [Act.put, List.setIfInBounds_toArray, List.set_cons_zero, List.set_cons_succ]
                refine callH7 (by kernel_rfl) (fun K hK => ?_)
                go_simp
                refine hK.out _ _ (trivial) (fun hHeld => ?_)
                clear hK K
                try simp only [Act.put, List.setIfInBounds_toArray, List.set_cons_zero, List.set_cons_succ]
                refine wpAnyH_done (by kernel_rfl) ?_ _
                have ch8 : Chg (fun y => y = w1.heap.size) w7 (w7.setCell ⟨w1.heap.size, 2, none⟩ (.slice A7 (g.2.2.length + 1) c7)) := Chg.set ⟨w1.heap.size, 2, none⟩ (.slice A7 (g.2.2.length + 1) c7)
                have bxF : Box (w7.setCell ⟨w1.heap.size, 2, none⟩ (.slice A7 (g.2.2.length + 1) c7)) w1.heap.size 54 #[.slice B7 (g.1.length + 1) d7, .slice A9 (g.2.1.length + 1) c9, .slice A7 (g.2.2.length + 1) c7] := bx7.set_ 2 (.slice A7 (g.2.2.length + 1) c7)
                have bzF : Box (w7.setCell ⟨w1.heap.size, 2, none⟩ (.slice A7 (g.2.2.length + 1) c7)) w.heap.size 54 #[.slice none 0 0, .slice none 0 0, .slice none 0 0] := bz7.far (by show w.heap.size ≠ w1.heap.size; omega) _
                have hoF := hop7.chg ch8 (fun y hy => by have h3 : y = w1.heap.size := hy; omega)
                have hdF := hd7.chg ch8 (fun y hy => by have h3 : y = w1.heap.size := hy; omega)
                have hccF := hcc7.push ch8 (fun y hy => .inr (by have h3 : y = w1.heap.size := hy; omega))
                go_wp2
                exact ⟨⟨k + 1, _, _, _, (g.1 ++ [x0], g.2.1 ++ [xs], g.2.2 ++ [x]), by omega, by go_num, parUp_succ HZ.out HX0.out HS.out.2 HS.out.1 hx6, bzF, bxF, hoF, hdF, hccF⟩, by simp [intOf]; omega⟩
              · go_simp
                refine hK.out _ _ (trivial) (fun hHeld => ?_)
                clear hK K
                try simp only [Act.put, List.setIfInBounds_toArray, List.set_cons_zero, List.set_cons_succ]
                refine callH1 (by kernel_rfl) (fun K hK => ?_)
                go_simp
                refine hK.out _ _ (trivial) (fun hHeld => ?_)
                clear hK K
                try simp only [Act.put, List.setIfInBounds_toArray, List.set_cons_zero, List.set_cons_succ]
                refine callH5 (by kernel_rfl) (fun K hK => ?_)
                have hbA : Below w6.heap.size w6 (w6.alloc (.cells #[.int .i64 x] 2)) := below_alloc (Nat.le_refl _) (Below.refl _ _)
                have hq1 : RI (w6.alloc (.cells #[.int .i64 x] 2)) (some ⟨w6.heap.size, 0, none⟩) 1 1 [x] := RI.one1 ((Box.new w6 2 #[.int .i64 x]).cell 0)
                have hopA := hop6.below hbA
                have hoA : OI 2 (w6.alloc (.cells #[.int .i64 x] 2)) (w1.heap.size + 1) (.slice A2 g.2.2.length c2) g.2.2 := hopA.row2
                have hlA : w1.heap.size + 1 ≤ (w6.alloc (.cells #[.int .i64 x] 2)).heap.size := Nat.le_trans hl6 hbA.size
                refine step_of_list (by rfl) (wp_appI (.tmp 52) (.tmp 55) (by rfl) (w6.alloc (.cells #[.int .i64 x] 2)) (w1.heap.size + 1) (.slice A2 g.2.2.length c2) g.2.2 (by rfl) hoA (some ⟨w6.heap.size, 0, none⟩) 1 1 [x] (by rfl) hq1 hkz2 (by omega) hlA ?_)
                intro v7 w7 ho7 hb7 hc7 hat7
                obtain ⟨A7, c7, h1e⟩ := ho7.form
                have h1f : v7 = .slice A7 (g.2.2.length + 1) c7 := by rw [h1e]; simp
                clear h1e
                subst h1f
                have hown : ∀ y, (Value.slice A2 g.2.2.length c2).ownBlock = some y → w1.heap.size + 1 ≤ y := fun y hy => (hoA.lt y hy).1
                have hop7 := hopA.set2 hc7 ho7 hat7
                have bx7 : Box w7 w1.heap.size 54 #[.slice B7 (g.1.length + 1) d7, .slice A9 (g.2.1.length + 1) c9, .slice A2 g.2.2.length c2] := (hc7.block _ (bx6.alloc _).lt (fun e => by have := hown _ e; omega)).trans (bx6.alloc _)
                have bz7 : Box w7 w.heap.size 54 #[.slice none 0 0, .slice none 0 0, .slice none 0 0] := (hc7.block _ (bz6.alloc _).lt (fun e => by have := hown _ e; omega)).trans (bz6.alloc _)
                have hd7 := (hd6.on hbA).chg hc7 (fun y hy => by have := hown y hy; omega)
                have hcc7 := (hcc6.then_below hbA (by omega)).push hc7 (fun y hy => .inr (by have := hown y hy; omega))
                have g7 := bx7.c2
                have f7 := bx7.hot 2
                have hl7 := Nat.le_trans hlA hc7.size
                clear hop6 hopA hoA hq1 bx6 bz6 hd6 hcc6 hc6 hbA hat7
                refine hK.out _ _ (trivial) (fun hHeld => ?_)
                clear hK K
                try simp only [Act.put, List.setIfInBounds_toArray, List.set_cons_zero, List.set_cons_succ]
                refine takeH6 (v := ?_) (by kernel_rfl) (by kernel_rfl) (by kernel_rfl) (fun _ _ _ h => h) hHeld (by rfl) ?_ ?_
                rotate_left; · (intro w hSw; (try dsimp only at hSw); go_simp; try with_reducible rfl)
                try simp only [Act.put, List.setIfInBounds_toArray, List.set_cons_zero, List.set_cons_succ]
                refine callH7 (by kernel_rfl) (fun K hK => ?_)
                go_simp
                refine hK.out _ _ (trivial) (fun hHeld => ?_)
                clear hK K
                try simp only [Act.put, List.setIfInBounds_toArray, List.set_cons_zero, List.set_cons_succ]
                refine wpAnyH_done (by kernel_rfl) ?_ _
                have ch8 : Chg (fun y => y = w1.heap.size) w7 (w7.setCell ⟨w1.heap.size, 2, none⟩ (.slice A7 (g.2.2.length + 1) c7)) := Chg.set ⟨w1.heap.size, 2, none⟩ (.slice A7 (g.2.2.length + 1) c7)
                have bxF : Box (w7.setCell ⟨w1.heap.size, 2, none⟩ (.slice A7 (g.2.2.length + 1) c7)) w1.heap.size 54 #[.slice B7 (g.1.length + 1) d7, .slice A9 (g.2.1.length + 1) c9, .slice A7 (g.2.2.length + 1) c7] := bx7.set_ 2 (.slice A7 (g.2.2.length + 1) c7)
                have bzF : Box (w7.setCell ⟨w1.heap.size, 2, none⟩ (.slice A7 (g.2.2.length + 1) c7)) w.heap.size 54 #[.slice none 0 0, .slice none 0 0, .slice none 0 0] := bz7.far (by show w.heap.size ≠ w1.heap.size; omega) _
                have hoF := hop7.chg ch8 (fun y hy => by have h3 : y = w1.heap.size := hy; omega)
                have hdF := hd7.chg ch8 (fun y hy => by have h3 : y = w1.heap.size := hy; omega)
                have hccF := hcc7.push ch8 (fun y hy => .inr (by have h3 : y = w1.heap.size := hy; omega))
                go_wp2
                exact ⟨⟨k + 1, _, _, _, (g.1 ++ [x0], g.2.1 ++ [xs], g.2.2 ++ [x]), by omega, by go_num, parUp_succ HZ.out HX0.out HS.out.2 HS.out.1 hx6, bzF, bxF, hoF, hdF, hccF⟩, by simp [intOf]; omega⟩
          · go_simp
            go_at_call 45
            refine (below w0 _ b 2 hdr2 (by omega)).mono ?_; rintro e w6 ⟨x, rfl, hx6, hd6, hc6⟩
            have bx6 : Box w6 w1.heap.size 54 #[.slice A0 g.1.length c0, .slice A1 g.2.1.length c1, .slice A2 g.2.2.length c2] := (hc6.block _ bx2.lt (fun e => by have h3 : w1.heap.size = b := e; omega)).trans bx2
            have bz6 : Box w6 w.heap.size 54 #[.slice none 0 0, .slice none 0 0, .slice none 0 0] := (hc6.block _ bz2.lt (fun e => by have h3 : w.heap.size = b := e; omega)).trans bz2
            have g6 := bx6.c0
            have hop6 := hop.chg hc6 (fun y hy => by have h3 : y = b := hy; omega)
            have hcc6 := chg_then hcc hc6
            have hl6 : w1.heap.size + 1 ≤ w6.heap.size := Nat.le_trans hlw hc6.size
            have g6A : ∀ o, (w6.alloc o).cell? ⟨w1.heap.size, 0, none⟩ = some (.slice A0 g.1.length c0) := fun o => keepA g6
            go_wp2_with fail
            refine hK.out _ _ (trivial) (fun hHeld => ?_)
            clear hK K
            try simp only [Act.put, List.setIfInBounds_toArray, List.set_cons_zero, List.set_cons_succ]
            refine twoH_2_5 (by kernel_rfl) (fun K hK => ?_) (fun K hK => ?_)
            · go_simp
              refine hK.out _ _ (trivial) (fun hHeld => ?_)
              clear hK K
              try simp only [Act.put, List.setIfInBounds_toArray, List.set_cons_zero, List.set_cons_succ]
              refine callH5 (by kernel_rfl) (fun K hK => ?_)
              go_simp
              refine hK.out _ _ (trivial) (fun hHeld => ?_)
              clear hK K
              try simp only [Act.put, List.setIfInBounds_toArray, List.set_cons_zero, List.set_cons_succ]
              refine callH6 (by kernel_rfl) (fun K hK => ?_)
              have hbA : Below w6.heap.size w6 (w6.alloc (.cells #[.int .i64 x] 2)) := below_alloc (Nat.le_refl _) (Below.refl _ _)
              have hq1 : RI (w6.alloc (.cells #[.int .i64 x] 2)) (some ⟨w6.heap.size, 0, none⟩) 1 1 [x] := RI.one1 ((Box.new w6 2 #[.int .i64 x]).cell 0)
              have hopA := hop6.below hbA
              have hoA : OI 2 (w6.alloc (.cells #[.int .i64 x] 2)) (w1.heap.size + 1) (.slice A0 g.1.length c0) g.1 := by obtain ⟨cs, h1, _⟩ := hopA; exact h1.1
              have hlA : w1.heap.size + 1 ≤ (w6.alloc (.cells #[.int .i64 x] 2)).heap.size := Nat.le_trans hl6 hbA.size
              refine step_of_list (by rfl) (wp_appI (.tmp 36) (.tmp 39) (by rfl) (w6.alloc (.cells #[.int .i64 x] 2)) (w1.heap.size + 1) (.slice A0 g.1.length c0) g.1 (by rfl) hoA (some ⟨w6.heap.size, 0, none⟩) 1 1 [x] (by rfl) hq1 hkz0 (by omega) hlA ?_)
              intro v7 w7 ho7 hb7 hc7 hat7
              obtain ⟨A7, c7, h1e⟩ := ho7.form
              have h1f : v7 = .slice A7 (g.1.length + 1) c7 := by rw [h1e]; simp
              clear h1e
              subst h1f
              have hown : ∀ y, (Value.slice A0 g.1.length c0).ownBlock = some y → w1.heap.size + 1 ≤ y := fun y hy => (hoA.lt y hy).1
              have hop7 := hopA.put0 hc7 ho7 hat7
              have bx7 : Box w7 w1.heap.size 54 #[.slice A0 g.1.length c0, .slice A1 g.2.1.length c1, .slice A2 g.2.2.length c2] := (hc7.block _ (bx6.alloc _).lt (fun e => by have := hown _ e; omega)).trans (bx6.alloc _)
              have bz7 : Box w7 w.heap.size 54 #[.slice none 0 0, .slice none 0 0, .slice none 0 0] := (hc7.block _ (bz6.alloc _).lt (fun e => by have := hown _ e; omega)).trans (bz6.alloc _)
              have hd7 := (hd6.on hbA).chg hc7 (fun y hy => by have := hown y hy; omega)
              have hcc7 := (hcc6.then_below hbA (by omega)).push hc7 (fun y hy => .inr (by have := hown y hy; omega))
              have g7 := bx7.c0
              have f7 := bx7.hot 0
              have hl7 := Nat.le_trans hlA hc7.size
              clear hop6 hopA hoA hq1 bx6 bz6 hd6 hcc6 hc6 hbA hat7
              refine hK.out _ _ (trivial) (fun hHeld => ?_)
              clear hK K
              try simp only [Act.put, List.setIfInBounds_toArray, List.set_cons_zero, List.set_cons_succ]
              refine takeH7 (v := ?_) (by kernel_rfl) (by kernel_rfl) (by kernel_rfl) (fun _ _ _ h => h) hHeld (by rfl) ?_ ?_
              rotate_left; · (intro w hSw; (try dsimp only at hSw); go_simp; try with_reducible rfl)
              try simp only [Act.put, List.setIfInBounds_toArray, List.set_cons_zero, List.set_cons_succ]
              refine takeH8 (v := ?_) (by kernel_rfl) (by kernel_rfl) (by kernel_rfl) (fun _ _ _ h => h) hHeld (by rfl) ?_ ?_
              rotate_left; · (intro w hSw; (try dsimp only at hSw); go_simp; try with_reducible rfl)
              try simp only [Act.put, List.setIfInBounds_toArray, List.set_cons_zero, List.set_cons_succ]
              refine callH9 (by kernel_rfl) (fun K hK => ?_)
              go_simp
              refine hK.out _ _ (trivial) (fun hHeld => ?_)
              clear hK K
              try simp only [Act.put, List.setIfInBounds_toArray, List.set_cons_zero, List.set_cons_succ]
              refine wpAnyH_done (by kernel_rfl) ?_ _
              have ch8 : Chg (fun y => y = w1.heap.size) w7 (w7.setCell ⟨w1.heap.size, 0, none⟩ (.slice A7 (g.1.length + 1) c7)) := Chg.set ⟨w1.heap.size, 0, none⟩ (.slice A7 (g.1.length + 1) c7)
              have bx8 : Box (w7.setCell ⟨w1.heap.size, 0, none⟩ (.slice A7 (g.1.length + 1) c7)) w1.heap.size 54 #[.slice A7 (g.1.length + 1) c7, .slice A1 g.2.1.length c1, .slice A2 g.2.2.length c2] := bx7.set_ 0 (.slice A7 (g.1.length + 1) c7)
              have bz8 : Box (w7.setCell ⟨w1.heap.size, 0, none⟩ (.slice A7 (g.1.length + 1) c7)) w.heap.size 54 #[.slice none 0 0, .slice none 0 0, .slice none 0 0] := bz7.far (by show w.heap.size ≠ w1.heap.size; omega) _
              have hop8 := hop7.chg ch8 (fun y hy => by have h3 : y = w1.heap.size := hy; omega)
              have hd8 := hd7.chg ch8 (fun y hy => by have h3 : y = w1.heap.size := hy; omega)
              have hcc8 := hcc7.push ch8 (fun y hy => .inr (by have h3 : y = w1.heap.size := hy; omega))
              have g18 := bx8.c1
              have hl8 := Nat.le_trans hl7 ch8.size
              have HX0 := Lib.hid hx6
              clear hop7 hd7 hcc7 ch8 bx7 bz7 g7 f7 hb7 hc7 ho7
              generalize (w7.setCell ⟨w1.heap.size, 0, none⟩ (.slice A7 (g.1.length + 1) c7)) = w8 at *
              obtain ⟨B7, hB7⟩ : ∃ z, z = A7 := ⟨_, rfl⟩
              obtain ⟨d7, hd7⟩ : ∃ z, z = c7 := ⟨_, rfl⟩
              obtain ⟨x0, hx0⟩ : ∃ z, z = x := ⟨_, rfl⟩
              subst hB7; subst hd7; subst hx0
              go_wp2_with (at_builtin; go_loud (refine wpList_pushX rfl (.tmp 45) (.tmp 47) (by rfl) w8 (w1.heap.size + 1) (.slice B7 (g.1.length + 1) d7) (.slice A1 g.2.1.length c1) (.slice A2 g.2.2.length c2) (.slice Av xs.length cv) (g.1 ++ [x0], g.2.1, g.2.2) xs (by rfl) (by rfl) hl8 hop8 hkz1 ?_; intro t1 w9 ho9 hb9 hc9 hat9; obtain ⟨A8, c8, A9, c9, A10, c10, h0e9, h1e9, h2e9⟩ := ho9.form; have h1e : t1 = .slice A9 (g.2.1.length + 1) c9 := (by rw [h1e9]; simp); clear h0e9 h1e9 h2e9 hat9; subst h1e; have hown9 : ∀ y, (Value.slice A1 g.2.1.length c1).ownBlock = some y → w1.heap.size + 1 ≤ y := fun y hy => hop8.old1 y hy; have bx9 : Box w9 w1.heap.size 54 #[.slice B7 (g.1.length + 1) d7, .slice A1 g.2.1.length c1, .slice A2 g.2.2.length c2] := (hc9.block _ bx8.lt (fun e => by have := hown9 _ e; omega)).trans bx8; have g9 := bx9.c1; have f9 := bx9.hot 1))
              have hl9 := hc9.size
              have ch9 : Chg (fun y => y = w1.heap.size) w9 (w9.setCell ⟨w1.heap.size, 1, none⟩ (.slice A9 (g.2.1.length + 1) c9)) := Chg.set ⟨w1.heap.size, 1, none⟩ (.slice A9 (g.2.1.length + 1) c9)
              have bz9 : Box (w9.setCell ⟨w1.heap.size, 1, none⟩ (.slice A9 (g.2.1.length + 1) c9)) w.heap.size 54 #[.slice none 0 0, .slice none 0 0, .slice none 0 0] := Box.far ((hc9.block _ bz8.lt (fun e => by have := hown9 _ e; omega)).trans bz8) (by show w.heap.size ≠ w1.heap.size; omega) _
              have bx10 : Box (w9.setCell ⟨w1.heap.size, 1, none⟩ (.slice A9 (g.2.1.length + 1) c9)) w1.heap.size 54 #[.slice B7 (g.1.length + 1) d7, .slice A9 (g.2.1.length + 1) c9, .slice A2 g.2.2.length c2] := bx9.set_ 1 (.slice A9 (g.2.1.length + 1) c9)
              have ho10 := ho9.chg ch9 (fun y hy => by have h3 : y = w1.heap.size := hy; omega)
              have hd10 := (hd8.chg hc9 (fun y hy => by have := hown9 y hy; omega)).chg ch9 (fun y hy => by have h3 : y = w1.heap.size := hy; omega)
              have hcc10 := (hcc8.push hc9 (fun y hy => .inr (by have := hown9 y hy; omega))).push ch9 (fun y hy => .inr (by have h3 : y = w1.heap.size := hy; omega))
              have hl10 := ch9.size
              clear ho9 hb9 hc9 bx9 bx8 bz8 hop8 hd8 hcc8 ch9 g9 f9 g18
              generalize (w9.setCell ⟨w1.heap.size, 1, none⟩ (.slice A9 (g.2.1.length + 1) c9)) = w10 at *
              go_wp2_with fail
              refine wp_region_held_drew (S := fun _ => True) (by kernel_rfl) trivial (fun hHeld => ?_)
              have hoD : OPar w10.drew (w1.heap.size + 1) (.slice B7 (g.1.length + 1) d7) (.slice A9 (g.2.1.length + 1) c9) (.slice A2 g.2.2.length c2) (g.1 ++ [x0], g.2.1 ++ [xs], g.2.2) := ho10.below (Below.drew (Below.refl _ _))
              have bzD : Box w10.drew w.heap.size 54 #[.slice none 0 0, .slice none 0 0, .slice none 0 0] := bz9
              have bxD : Box w10.drew w1.heap.size 54 #[.slice B7 (g.1.length + 1) d7, .slice A9 (g.2.1.length + 1) c9, .slice A2 g.2.2.length c2] := bx10
              have hdD := hd10.on (Below.drew (Below.refl w10.heap.size w10))
              have hccD : Chg (fun y => y = b) w w10.drew := hcc10.drewN 1
              have hlw : w1.heap.size + 1 ≤ w10.drew.heap.size := Nat.le_trans (Nat.le_trans hl8 hl9) hl10
              clear ho10 bz9 bx10 hd10 hcc10
              generalize w10.drew = wE at *
              have g2D := bxD.c2
              clear hx6
              refine takeH0 (v := ?_) (by kernel_rfl) (by kernel_rfl) (by kernel_rfl) (fun _ _ _ h => h) hHeld (by rfl) ?_ ?_
              rotate_left; · (intro w hSw; (try dsimp only at hSw); go_simp; try with_reducible rfl)
              try simp only [Act.put, List.setIfInBounds_toArray, List.set_cons_zero, List.set_cons_succ]
              refine takeH2 (v := ?_) (by kernel_rfl) (by kernel_rfl) (by kernel_rfl) (fun _ _ _ h => h) hHeld (by rfl) ?_ ?_
              rotate_left; · (intro w hSw; (try dsimp only at hSw); go_simp; try with_reducible rfl)
              try simp only [Act.put, List.setIfInBounds_toArray, List.set_cons_zero, List.set_cons_succ]
              refine twoH_1_3 (by kernel_rfl) (fun K hK => ?_) (fun K hK => ?_)
              · go_simp
                refine hK.out _ _ (trivial) (fun hHeld => ?_)
                clear hK K
                try simp only [Act.put, List.setIfInBounds_toArray, List.set_cons_zero, List.set_cons_succ]
                refine callH3 (by kernel_rfl) (fun K hK => ?_)
                go_simp
                go_at_call 45
                refine (below w0 _ b 6 hdD (by omega)).mono ?_; rintro e w6 ⟨x, rfl, hx6, hd6, hc6⟩
                have bx6 : Box w6 w1.heap.size 54 #[.slice B7 (g.1.length + 1) d7, .slice A9 (g.2.1.length + 1) c9, .slice A2 g.2.2.length c2] := (hc6.block _ bxD.lt (fun e => by have h3 : w1.heap.size = b := e; omega)).trans bxD
                have bz6 : Box w6 w.heap.size 54 #[.slice none 0 0, .slice none 0 0, .slice none 0 0] := (hc6.block _ bzD.lt (fun e => by have h3 : w.heap.size = b := e; omega)).trans bzD
                have g6 := bx6.c2
                have hop6 := hoD.chg hc6 (fun y hy => by have h3 : y = b := hy; omega)
                have hcc6 := chg_then hccD hc6
                have hl6 : w1.heap.size + 1 ≤ w6.heap.size := Nat.le_trans hlw hc6.size
                go_wp2_with fail
                refine hK.out _ _ (trivial) (fun hHeld => ?_)
                clear hK K
                try simp only [Act.put, List.setIfInBounds_toArray, List.set_cons_zero, List.set_cons_succ]
                refine callH4 (by kernel_rfl) (fun K hK => ?_)
                go_simp
                refine hK.out _ _ (trivial) (fun hHeld => ?_)
                clear hK K
                try simp only [Act.put, List.setIfInBounds_toArray, List.set_cons_zero, List.set_cons_succ]
                refine callH5 (by kernel_rfl) (fun K hK => ?_)
                have hbA : Below w6.heap.size w6 (w6.alloc (.cells #[.int .i64 x] 2)) := below_alloc (Nat.le_refl _) (Below.refl _ _)
                have hq1 : RI (w6.alloc (.cells #[.int .i64 x] 2)) (some ⟨w6.heap.size, 0, none⟩) 1 1 [x] := RI.one1 ((Box.new w6 2 #[.int .i64 x]).cell 0)
                have hopA := hop6.below hbA
                have hoA : OI 2 (w6.alloc (.cells #[.int .i64 x] 2)) (w1.heap.size + 1) (.slice A2 g.2.2.length c2) g.2.2 := hopA.row2
                have hlA : w1.heap.size + 1 ≤ (w6.alloc (.cells #[.int .i64 x] 2)).heap.size := Nat.le_trans hl6 hbA.size
                refine step_of_list (by rfl) (wp_appI (.tmp 52) (.tmp 55) (by rfl) (w6.alloc (.cells #[.int .i64 x] 2)) (w1.heap.size + 1) (.slice A2 g.2.2.length c2) g.2.2 (by rfl) hoA (some ⟨w6.heap.size, 0, none⟩) 1 1 [x] (by rfl) hq1 hkz2 (by omega) hlA ?_)
                intro v7 w7 ho7 hb7 hc7 hat7
                obtain ⟨A7, c7, h1e⟩ := ho7.form
                have h1f : v7 = .slice A7 (g.2.2.length + 1) c7 := by rw [h1e]; simp
                clear h1e
                subst h1f
                have hown : ∀ y, (Value.slice A2 g.2.2.length c2).ownBlock = some y → w1.heap.size + 1 ≤ y := fun y hy => (hoA.lt y hy).1
                have hop7 := hopA.set2 hc7 ho7 hat7
                have bx7 : Box w7 w1.heap.size 54 #[.slice B7 (g.1.length + 1) d7, .slice A9 (g.2.1.length + 1) c9, .slice A2 g.2.2.length c2] := (hc7.block _ (bx6.alloc _).lt (fun e => by have := hown _ e; omega)).trans (bx6.alloc _)
                have bz7 : Box w7 w.heap.size 54 #[.slice none 0 0, .slice none 0 0, .slice none 0 0] := (hc7.block _ (bz6.alloc _).lt (fun e => by have := hown _ e; omega)).trans (bz6.alloc _)
                have hd7 := (hd6.on hbA).chg hc7 (fun y hy => by have := hown y hy; omega)
                have hcc7 := (hcc6.then_below hbA (by omega)).push hc7 (fun y hy => .inr (by have := hown y hy; omega))
                have g7 := bx7.c2
                have f7 := bx7.hot 2
                have hl7 := Nat.le_trans hlA hc7.size
                clear hop6 hopA hoA hq1 bx6 bz6 hd6 hcc6 hc6 hbA hat7
                refine hK.out _ _ (trivial) (fun hHeld => ?_)
                clear hK K
                try simp only [Act.put, List.setIfInBounds_toArray, List.set_cons_zero, List.set_cons_succ]
                refine takeH6 (v := ?_) (by kernel_rfl) (by kernel_rfl) (by kernel_rfl) (fun _ _ _ h => h) hHeld (by rfl) ?_ ?_
                rotate_left; · (intro w hSw; (try dsimp only at hSw); go_simp; try with_reducible rfl)
                try simp only [Act.put, List.setIfInBounds_toArray, List.set_cons_zero, List.set_cons_succ]
                refine callH7 (by kernel_rfl) (fun K hK => ?_)
                go_simp
                refine hK.out _ _ (trivial) (fun hHeld => ?_)
                clear hK K
                try simp only [Act.put, List.setIfInBounds_toArray, List.set_cons_zero, List.set_cons_succ]
                refine wpAnyH_done (by kernel_rfl) ?_ _
                have ch8 : Chg (fun y => y = w1.heap.size) w7 (w7.setCell ⟨w1.heap.size, 2, none⟩ (.slice A7 (g.2.2.length + 1) c7)) := Chg.set ⟨w1.heap.size, 2, none⟩ (.slice A7 (g.2.2.length + 1) c7)
                have bxF : Box (w7.setCell ⟨w1.heap.size, 2, none⟩ (.slice A7 (g.2.2.length + 1) c7)) w1.heap.size 54 #[.slice B7 (g.1.length + 1) d7, .slice A9 (g.2.1.length + 1) c9, .slice A7 (g.2.2.length + 1) c7] := bx7.set_ 2 (.slice A7 (g.2.2.length + 1) c7)
                have bzF : Box (w7.setCell ⟨w1.heap.size, 2, none⟩ (.slice A7 (g.2.2.length + 1) c7)) w.heap.size 54 #[.slice none 0 0, .slice none 0 0, .slice none 0 0] := bz7.far (by show w.heap.size ≠ w1.heap.size; omega) _
                have hoF := hop7.chg ch8 (fun y hy => by have h3 : y = w1.heap.size := hy; omega)
                have hdF := hd7.chg ch8 (fun y hy => by have h3 : y = w1.heap.size := hy; omega)
                have hccF := hcc7.push ch8 (fun y hy => .inr (by have h3 : y = w1.heap.size := hy; omega))
                go_wp2
                exact ⟨⟨k + 1, _, _, _, (g.1 ++ [x0], g.2.1 ++ [xs], g.2.2 ++ [x]), by omega, by go_num, parUp_succ HZ.out HX0.out HS.out.2 HS.out.1 hx6, bzF, bxF, hoF, hdF, hccF⟩, by simp [intOf]; omega⟩
              · go_simp
                go_at_call 45
                refine (below w0 _ b 6 hdD (by omega)).mono ?_; rintro e w6 ⟨x, rfl, hx6, hd6, hc6⟩
                have bx6 : Box w6 w1.heap.size 54 #[.slice B7 (g.1.length + 1) d7, .slice A9 (g.2.1.length + 1) c9, .slice A2 g.2.2.length c2] := (hc6.block _ bxD.lt (fun e => by have h3 : w1.heap.size = b := e; omega)).trans bxD
                have bz6 : Box w6 w.heap.size 54 #[.slice none 0 0, .slice none 0 0, .slice none 0 0] := (hc6.block _ bzD.lt (fun e => by have h3 : w.heap.size = b := e; omega)).trans bzD
                have g6 := bx6.c2
                have hop6 := hoD.chg hc6 (fun y hy => by have h3 : y = b := hy; omega)
                have hcc6 := chg_then hccD hc6
                have hl6 : w1.heap.size + 1 ≤ w6.heap.size := Nat.le_trans hlw hc6.size
                have g6A : ∀ o, (w6.alloc o).cell? ⟨w1.heap.size, 2, none⟩ = some (.slice A2 g.2.2.length c2) := fun o => keepA g6
                go_wp2_with fail
                refine hK.out _ _ (trivial) (fun hHeld => ?_)
                clear hK K
                try simp only [Act.put, List.setIfInBounds_toArray, List.set_cons_zero, List.set_cons_succ]
                refine twoH_1_4 (by kernel_rfl) (fun K hK => ?_) (fun K hK => ?_)
                · go_simp
                  refine hK.out _ _ (trivial) (fun hHeld => ?_)
                  clear hK K
                  try simp only [Act.put, List.setIfInBounds_toArray, List.set_cons_zero, List.set_cons_succ]
                  refine callH4 (by kernel_rfl) (fun K hK => ?_)
                  go_simp
                  refine hK.out _ _ (trivial) (fun hHeld => ?_)
                  clear hK K
                  try simp only [Act.put, List.setIfInBounds_toArray, List.set_cons_zero, List.set_cons_succ]
                  refine callH5 (by kernel_rfl) (fun K hK => ?_)
                  have hbA : Below w6.heap.size w6 (w6.alloc (.cells #[.int .i64 x] 2)) := below_alloc (Nat.le_refl _) (Below.refl _ _)
                  have hq1 : RI (w6.alloc (.cells #[.int .i64 x] 2)) (some ⟨w6.heap.size, 0, none⟩) 1 1 [x] := RI.one1 ((Box.new w6 2 #[.int .i64 x]).cell 0)
                  have hopA := hop6.below hbA
                  have hoA : OI 2 (w6.alloc (.cells #[.int .i64 x] 2)) (w1.heap.size + 1) (.slice A2 g.2.2.length c2) g.2.2 := hopA.row2
                  have hlA : w1.heap.size + 1 ≤ (w6.alloc (.cells #[.int .i64 x] 2)).heap.size := Nat.le_trans hl6 hbA.size
                  refine step_of_list (by rfl) (wp_appI (.tmp 52) (.tmp 55) (by rfl) (w6.alloc (.cells #[.int .i64 x] 2)) (w1.heap.size + 1) (.slice A2 g.2.2.length c2) g.2.2 (by rfl) hoA (some ⟨w6.heap.size, 0, none⟩) 1 1 [x] (by rfl) hq1 hkz2 (by omega) hlA ?_)
                  intro v7 w7 ho7 hb7 hc7 hat7
                  obtain ⟨A7, c7, h1e⟩ := ho7.form
                  have h1f : v7 = .slice A7 (g.2.2.length + 1) c7 := by rw [h1e]; simp
                  clear h1e
                  subst h1f
                  have hown : ∀ y, (Value.slice A2 g.2.2.length c2).ownBlock = some y → w1.heap.size + 1 ≤ y := fun y hy => (hoA.lt y hy).1
                  have hop7 := hopA.set2 hc7 ho7 hat7
                  have bx7 : Box w7 w1.heap.size 54 #[.slice B7 (g.1.length + 1) d7, .slice A9 (g.2.1.length + 1) c9, .slice A2 g.2.2.length c2] := (hc7.block _ (bx6.alloc _).lt (fun e => by have := hown _ e; omega)).trans (bx6.alloc _)
                  have bz7 : Box w7 w.heap.size 54 #[.slice none 0 0, .slice none 0 0, .slice none 0 0] := (hc7.block _ (bz6.alloc _).lt (fun e => by have := hown _ e; omega)).trans (bz6.alloc _)
                  have hd7 := (hd6.on hbA).chg hc7 (fun y hy => by have := hown y hy; omega)
                  have hcc7 := (hcc6.then_below hbA (by omega)).push hc7 (fun y hy => .inr (by have := hown y hy; omega))
                  have g7 := bx7.c2
                  have f7 := bx7.hot 2
                  have hl7 := Nat.le_trans hlA hc7.size
                  clear hop6 hopA hoA hq1 bx6 bz6 hd6 hcc6 hc6 hbA hat7
                  refine hK.out _ _ (trivial) (fun hHeld => ?_)
                  clear hK K
                  try simp only [Act.put, List.setIfInBounds_toArray, List.set_cons_zero, List.set_cons_succ]
                  refine takeH6 (v := ?_) (by kernel_rfl) (by kernel_rfl) (by kernel_rfl) (fun _ _ _ h => h) hHeld (by rfl) ?_ ?_
                  rotate_left; · (intro w hSw; (try dsimp only at hSw); go_simp; try with_reducible rfl)
                  try simp only [Act.put, List.setIfInBounds_toArray, List.set_cons_zero, List.set_cons_succ]
                  refine callH7 (by kernel_rfl) (fun K hK => ?_)
                  go_simp
                  refine hK.out _ _ (trivial) (fun hHeld => ?_)
                  clear hK K
                  try simp only [Act.put, List.setIfInBounds_toArray, List.set_cons_zero, List.set_cons_succ]
                  refine wpAnyH_done (by kernel_rfl) ?_ _
                  have ch8 : Chg (fun y => y = w1.heap.size) w7 (w7.setCell ⟨w1.heap.size, 2, none⟩ (.slice A7 (g.2.2.length + 1) c7)) := Chg.set ⟨w1.heap.size, 2, none⟩ (.slice A7 (g.2.2.length + 1) c7)
                  have bxF : Box (w7.setCell ⟨w1.heap.size, 2, none⟩ (.slice A7 (g.2.2.length + 1) c7)) w1.heap.size 54 #[.slice B7 (g.1.length + 1) d7, .slice A9 (g.2.1.length + 1) c9, .slice A7 (g.2.2.length + 1) c7] := bx7.set_ 2 (.slice A7 (g.2.2.length + 1) c7)
                  have bzF : Box (w7.setCell ⟨w1.heap.size, 2, none⟩ (.slice A7 (g.2.2.length + 1) c7)) w.heap.size 54 #[.slice none 0 0, .slice none 0 0, .slice none 0 0] := bz7.far (by show w.heap.size ≠ w1.heap.size; omega) _
                  have hoF := hop7.chg ch8 (fun y hy => by have h3 : y = w1.heap.size := hy; omega)
                  have hdF := hd7.chg ch8 (fun y hy => by have h3 : y = w1.heap.size := hy; omega)
                  have hccF := hcc7.push ch8 (fun y hy => .inr (by have h3 : y = w1.heap.size := hy; omega))
                  go_wp2
                  exact ⟨⟨k + 1, _, _, _, (g.1 ++ [x0], g.2.1 ++ [xs], g.2.2 ++ [x]), by omega, by go_num, parUp_succ HZ.out HX0.out HS.out.2 HS.out.1 hx6, bzF, bxF, hoF, hdF, hccF⟩, by simp [intOf]; omega⟩
                · go_simp
                  refine hK.out _ _ (trivial) (fun hHeld => ?_)
                  clear hK K
                  try simp only [Act.put, List.setIfInBounds_toArray, List.set_cons_zero, List.set_cons_succ]
                  refine callH1 (by kernel_rfl) (fun K hK => ?_)
                  go_simp
                  refine hK.out _ _ (trivial) (fun hHeld => ?_)
                  clear hK K
                  try simp only [Act.put, List.setIfInBounds_toArray, List.set_cons_zero, List.set_cons_succ]
                  refine callH5 (by kernel_rfl) (fun K hK => ?_)
                  have hbA : Below w6.heap.size w6 (w6.alloc (.cells #[.int .i64 x] 2)) := below_alloc (Nat.le_refl _) (Below.refl _ _)
                  have hq1 : RI (w6.alloc (.cells #[.int .i64 x] 2)) (some ⟨w6.heap.size, 0, none⟩) 1 1 [x] := RI.one1 ((Box.new w6 2 #[.int .i64 x]).cell 0)
                  have hopA := hop6.below hbA
                  have hoA : OI 2 (w6.alloc (.cells #[.int .i64 x] 2)) (w1.heap.size + 1) (.slice A2 g.2.2.length c2) g.2.2 := hopA.row2
                  have hlA : w1.heap.size + 1 ≤ (w6.alloc (.cells #[.int .i64 x] 2)).heap.size := Nat.le_trans hl6 hbA.size
                  refine step_of_list (by rfl) (wp_appI (.tmp 52) (.tmp 55) (by rfl) (w6.alloc (.cells #[.int .i64 x] 2)) (w1.heap.size + 1) (.slice A2 g.2.2.length c2) g.2.2 (by rfl) hoA (some ⟨w6.heap.size, 0, none⟩) 1 1 [x] (by rfl) hq1 hkz2 (by omega) hlA ?_)
                  intro v7 w7 ho7 hb7 hc7 hat7
                  obtain ⟨A7, c7, h1e⟩ := ho7.form
                  have h1f : v7 = .slice A7 (g.2.2.length + 1) c7 := by rw [h1e]; simp
                  clear h1e
                  subst h1f
                  have hown : ∀ y, (Value.slice A2 g.2.2.length c2).ownBlock = some y → w1.heap.size + 1 ≤ y := fun y hy => (hoA.lt y hy).1
                  have hop7 := hopA.set2 hc7 ho7 hat7
                  have bx7 : Box w7 w1.heap.size 54 #[.slice B7 (g.1.length + 1) d7, .slice A9 (g.2.1.length + 1) c9, .slice A2 g.2.2.length c2] := (hc7.block _ (bx6.alloc _).lt (fun e => by have := hown _ e; omega)).trans (bx6.alloc _)
                  have bz7 : Box w7 w.heap.size 54 #[.slice none 0 0, .slice none 0 0, .slice none 0 0] := (hc7.block _ (bz6.alloc _).lt (fun e => by have := hown _ e; omega)).trans (bz6.alloc _)
                  have hd7 := (hd6.on hbA).chg hc7 (fun y hy => by have := hown y hy; omega)
                  have hcc7 := (hcc6.then_below hbA (by omega)).push hc7 (fun y hy => .inr (by have := hown y hy; omega))
                  have g7 := bx7.c2
                  have f7 := bx7.hot 2
                  have hl7 := Nat.le_trans hlA hc7.size
                  clear hop6 hopA hoA hq1 bx6 bz6 hd6 hcc6 hc6 hbA hat7
                  refine hK.out _ _ (trivial) (fun hHeld => ?_)
                  clear hK K
                  try simp only [Act.put, List.setIfInBounds_toArray, List.set_cons_zero, List.set_cons_succ]
                  refine takeH6 (v := ?_) (by kernel_rfl) (by kernel_rfl) (by kernel_rfl) (fun _ _ _ h => h) hHeld (by rfl) ?_ ?_
                  rotate_left; · (intro w hSw; (try dsimp only at hSw); go_simp; try with_reducible rfl)
                  try simp only [Act.put, List.setIfInBounds_toArray, List.set_cons_zero, List.set_cons_succ]
                  refine callH7 (by kernel_rfl) (fun K hK => ?_)
                  go_simp
                  refine hK.out _ _ (trivial) (fun hHeld => ?_)
                  clear hK K
                  try simp only [Act.put, List.setIfInBounds_toArray, List.set_cons_zero, List.set_cons_succ]
                  refine wpAnyH_done (by kernel_rfl) ?_ _
                  have ch8 : Chg (fun y => y = w1.heap.size) w7 (w7.setCell ⟨w1.heap.size, 2, none⟩ (.slice A7 (g.2.2.length + 1) c7)) := Chg.set ⟨w1.heap.size, 2, none⟩ (.slice A7 (g.2.2.length + 1) c7)
                  have bxF : Box (w7.setCell ⟨w1.heap.size, 2, none⟩ (.slice A7 (g.2.2.length + 1) c7)) w1.heap.size 54 #[.slice B7 (g.1.length + 1) d7, .slice A9 (g.2.1.length + 1) c9, .slice A7 (g.2.2.length + 1) c7] := bx7.set_ 2 (.slice A7 (g.2.2.length + 1) c7)
                  have bzF : Box (w7.setCell ⟨w1.heap.size, 2, none⟩ (.slice A7 (g.2.2.length + 1) c7)) w.heap.size 54 #[.slice none 0 0, .slice none 0 0, .slice none 0 0] := bz7.far (by show w.heap.size ≠ w1.heap.size; omega) _
                  have hoF := hop7.chg ch8 (fun y hy => by have h3 : y = w1.heap.size := hy; omega)
                  have hdF := hd7.chg ch8 (fun y hy => by have h3 : y = w1.heap.size := hy; omega)
                  have hccF := hcc7.push ch8 (fun y hy => .inr (by have h3 : y = w1.heap.size := hy; omega))
                  go_wp2
                  exact ⟨⟨k + 1, _, _, _, (g.1 ++ [x0], g.2.1 ++ [xs], g.2.2 ++ [x]), by omega, by go_num, parUp_succ HZ.out HX0.out HS.out.2 HS.out.1 hx6, bzF, bxF, hoF, hdF, hccF⟩, by simp [intOf]; omega⟩
            · go_simp
              refine hK.out _ _ (trivial) (fun hHeld => ?_)
              clear hK K
              try simp only [Act.put, List.setIfInBounds_toArray, List.set_cons_zero, List.set_cons_succ]
              refine callH2 (by kernel_rfl) (fun K hK => ?_)
              go_simp
              refine hK.out _ _ (trivial) (fun hHeld => ?_)
              clear hK K
              try simp only [Act.put, List.setIfInBounds_toArray, List.set_cons_zero, List.set_cons_succ]
              refine callH6 (by kernel_rfl) (fun K hK => ?_)
              have hbA : Below w6.heap.size w6 (w6.alloc (.cells #[.int .i64 x] 2)) := below_alloc (Nat.le_refl _) (Below.refl _ _)
              have hq1 : RI (w6.alloc (.cells #[.int .i64 x] 2)) (some ⟨w6.heap.size, 0, none⟩) 1 1 [x] := RI.one1 ((Box.new w6 2 #[.int .i64 x]).cell 0)
              have hopA := hop6.below hbA
              have hoA : OI 2 (w6.alloc (.cells #[.int .i64 x] 2)) (w1.heap.size + 1) (.slice A0 g.1.length c0) g.1 := by obtain ⟨cs, h1, _⟩ := hopA; exact h1.1
              have hlA : w1.heap.size + 1 ≤ (w6.alloc (.cells #[.int .i64 x] 2)).heap.size := Nat.le_trans hl6 hbA.size
              refine step_of_list (by rfl) (wp_appI (.tmp 36) (.tmp 39) (by rfl) (w6.alloc (.cells #[.int .i64 x] 2)) (w1.heap.size + 1) (.slice A0 g.1.length c0) g.1 (by rfl) hoA (some ⟨w6.heap.size, 0, none⟩) 1 1 [x] (by rfl) hq1 hkz0 (by omega) hlA ?_)
              intro v7 w7 ho7 hb7 hc7 hat7
              obtain ⟨A7, c7, h1e⟩ := ho7.form
              have h1f : v7 = .slice A7 (g.1.length + 1) c7 := by rw [h1e]; simp
              clear h1e
              subst h1f
              have hown : ∀ y, (Value.slice A0 g.1.length c0).ownBlock = some y → w1.heap.size + 1 ≤ y := fun y hy => (hoA.lt y hy).1
              have hop7 := hopA.put0 hc7 ho7 hat7
              have bx7 : Box w7 w1.heap.size 54 #[.slice A0 g.1.length c0, .slice A1 g.2.1.length c1, .slice A2 g.2.2.length c2] := (hc7.block _ (bx6.alloc _).lt (fun e => by have := hown _ e; omega)).trans (bx6.alloc _)
              have bz7 : Box w7 w.heap.size 54 #[.slice none 0 0, .slice none 0 0, .slice none 0 0] := (hc7.block _ (bz6.alloc _).lt (fun e => by have := hown _ e; omega)).trans (bz6.alloc _)
              have hd7 := (hd6.on hbA).chg hc7 (fun y hy => by have := hown y hy; omega)
              have hcc7 := (hcc6.then_below hbA (by omega)).push hc7 (fun y hy => .inr (by have := hown y hy; omega))
              have g7 := bx7.c0
              have f7 := bx7.hot 0
              have hl7 := Nat.le_trans hlA hc7.size
              clear hop6 hopA hoA hq1 bx6 bz6 hd6 hcc6 hc6 hbA hat7
              refine hK.out _ _ (trivial) (fun hHeld => ?_)
              clear hK K
              try simp only [Act.put, List.setIfInBounds_toArray, List.set_cons_zero, List.set_cons_succ]
              refine takeH7 (v := ?_) (by kernel_rfl) (by kernel_rfl) (by kernel_rfl) (fun _ _ _ h => h) hHeld (by rfl) ?_ ?_
              rotate_left; · (intro w hSw; (try dsimp only at hSw); go_simp; try with_reducible rfl)
              try simp only [Act.put, List.setIfInBounds_toArray, List.set_cons_zero, List.set_cons_succ]
              refine takeH8 (v := ?_) (by kernel_rfl) (by kernel_rfl) (by kernel_rfl) (fun _ _ _ h => h) hHeld (by rfl) ?_ ?_
              rotate_left; · (intro w hSw; (try dsimp only at hSw); go_simp; try with_reducible rfl)
              try simp only [Act.put, List.setIfInBounds_toArray, List.set_cons_zero, List.set_cons_succ]
              refine callH9 (by kernel_rfl) (fun K hK => ?_)
              go_simp
              refine hK.out _ _ (trivial) (fun hHeld => ?_)
              clear hK K
              try simp only [Act.put, List.setIfInBounds_toArray, List.set_cons_zero, List.set_cons_succ]
              refine wpAnyH_done (by kernel_rfl) ?_ _
              have ch8 : Chg (fun y => y = w1.heap.size) w7 (w7.setCell ⟨w1.heap.size, 0, none⟩ (.slice A7 (g.1.length + 1) c7)) := Chg.set ⟨w1.heap.size, 0, none⟩ (.slice A7 (g.1.length + 1) c7)
              have bx8 : Box (w7.setCell ⟨w1.heap.size, 0, none⟩ (.slice A7 (g.1.length + 1) c7)) w1.heap.size 54 #[.slice A7 (g.1.length + 1) c7, .slice A1 g.2.1.length c1, .slice A2 g.2.2.length c2] := bx7.set_ 0 (.slice A7 (g.1.length + 1) c7)
              have bz8 : Box (w7.setCell ⟨w1.heap.size, 0, none⟩ (.slice A7 (g.1.length + 1) c7)) w.heap.size 54 #[.slice none 0 0, .slice none 0 0, .slice none 0 0] := bz7.far (by show w.heap.size ≠ w1.heap.size; omega) _
              have hop8 := hop7.chg ch8 (fun y hy => by have h3 : y = w1.heap.size := hy; omega)
              have hd8 := hd7.chg ch8 (fun y hy => by have h3 : y = w1.heap.size := hy; omega)
              have hcc8 := hcc7.push ch8 (fun y hy => .inr (by have h3 : y = w1.heap.size := hy; omega))
              have g18 := bx8.c1
              have hl8 := Nat.le_trans hl7 ch8.size
              have HX0 := Lib.hid hx6
              clear hop7 hd7 hcc7 ch8 bx7 bz7 g7 f7 hb7 hc7 ho7
              generalize (w7.setCell ⟨w1.heap.size, 0, none⟩ (.slice A7 (g.1.length + 1) c7)) = w8 at *
              obtain ⟨B7, hB7⟩ : ∃ z, z = A7 := ⟨_, rfl⟩
              obtain ⟨d7, hd7⟩ : ∃ z, z = c7 := ⟨_, rfl⟩
              obtain ⟨x0, hx0⟩ : ∃ z, z = x := ⟨_, rfl⟩
              subst hB7; subst hd7; subst hx0
              go_wp2_with (at_builtin; go_loud (refine wpList_pushX rfl (.tmp 45) (.tmp 47) (by rfl) w8 (w1.heap.size + 1) (.slice B7 (g.1.length + 1) d7) (.slice A1 g.2.1.length c1) (.slice A2 g.2.2.length c2) (.slice Av xs.length cv) (g.1 ++ [x0], g.2.1, g.2.2) xs (by rfl) (by rfl) hl8 hop8 hkz1 ?_; intro t1 w9 ho9 hb9 hc9 hat9; obtain ⟨A8, c8, A9, c9, A10, c10, h0e9, h1e9, h2e9⟩ := ho9.form; have h1e : t1 = .slice A9 (g.2.1.length + 1) c9 := (by rw [h1e9]; simp); clear h0e9 h1e9 h2e9 hat9; subst h1e; have hown9 : ∀ y, (Value.slice A1 g.2.1.length c1).ownBlock = some y → w1.heap.size + 1 ≤ y := fun y hy => hop8.old1 y hy; have bx9 : Box w9 w1.heap.size 54 #[.slice B7 (g.1.length + 1) d7, .slice A1 g.2.1.length c1, .slice A2 g.2.2.length c2] := (hc9.block _ bx8.lt (fun e => by have := hown9 _ e; omega)).trans bx8; have g9 := bx9.c1; have f9 := bx9.hot 1))
              have hl9 := hc9.size
              have ch9 : Chg (fun y => y = w1.heap.size) w9 (w9.setCell ⟨w1.heap.size, 1, none⟩ (.slice A9 (g.2.1.length + 1) c9)) := Chg.set ⟨w1.heap.size, 1, none⟩ (.slice A9 (g.2.1.length + 1) c9)
              have bz9 : Box (w9.setCell ⟨w1.heap.size, 1, none⟩ (.slice A9 (g.2.1.length + 1) c9)) w.heap.size 54 #[.slice none 0 0, .slice none 0 0, .slice none 0 0] := Box.far ((hc9.block _ bz8.lt (fun e => by have := hown9 _ e; omega)).trans bz8) (by show w.heap.size ≠ w1.heap.size; omega) _
              have bx10 : Box (w9.setCell ⟨w1.heap.size, 1, none⟩ (.slice A9 (g.2.1.length + 1) c9)) w1.heap.size 54 #[.slice B7 (g.1.length + 1) d7, .slice A9 (g.2.1.length + 1) c9, .slice A2 g.2.2.length c2] := bx9.set_ 1 (.slice A9 (g.2.1.length + 1) c9)
              have ho10 := ho9.chg ch9 (fun y hy => by have h3 : y = w1.heap.size := hy; omega)
              have hd10 := (hd8.chg hc9 (fun y hy => by have := hown9 y hy; omega)).chg ch9 (fun y hy => by have h3 : y = w1.heap.size := hy; omega)
              have hcc10 := (hcc8.push hc9 (fun y hy => .inr (by have := hown9 y hy; omega))).push ch9 (fun y hy => .inr (by have h3 : y = w1.heap.size := hy; omega))
              have hl10 := ch9.size
              clear ho9 hb9 hc9 bx9 bx8 bz8 hop8 hd8 hcc8 ch9 g9 f9 g18
              generalize (w9.setCell ⟨w1.heap.size, 1, none⟩ (.slice A9 (g.2.1.length + 1) c9)) = w10 at *
              go_wp2_with fail
              refine wp_region_held_drew (S := fun _ => True) (by kernel_rfl) trivial (fun hHeld => ?_)
              have hoD : OPar w10.drew (w1.heap.size + 1) (.slice B7 (g.1.length + 1) d7) (.slice A9 (g.2.1.length + 1) c9) (.slice A2 g.2.2.length c2) (g.1 ++ [x0], g.2.1 ++ [xs], g.2.2) := ho10.below (Below.drew (Below.refl _ _))
              have bzD : Box w10.drew w.heap.size 54 #[.slice none 0 0, .slice none 0 0, .slice none 0 0] := bz9
              have bxD : Box w10.drew w1.heap.size 54 #[.slice B7 (g.1.length + 1) d7, .slice A9 (g.2.1.length + 1) c9, .slice A2 g.2.2.length c2] := bx10
              have hdD := hd10.on (Below.drew (Below.refl w10.heap.size w10))
              have hccD : Chg (fun y => y = b) w w10.drew := hcc10.drewN 1
              have hlw : w1.heap.size + 1 ≤ w10.drew.heap.size := Nat.le_trans (Nat.le_trans hl8 hl9) hl10
              clear ho10 bz9 bx10 hd10 hcc10
              generalize w10.drew = wE at *
              have g2D := bxD.c2
              clear hx6
              refine takeH0 (v := ?_) (by kernel_rfl) (by kernel_rfl) (by kernel_rfl) (fun _ _ _ h => h) hHeld (by rfl) ?_ ?_
              rotate_left; · (intro w hSw; (try dsimp only at hSw); go_simp; try with_reducible rfl)
              try simp only [Act.put, List.setIfInBounds_toArray, List.set_cons_zero, List.set_cons_succ]
              refine takeH2 (v := ?_) (by kernel_rfl) (by kernel_rfl) (by kernel_rfl) (fun _ _ _ h => h) hHeld (by rfl) ?_ ?_
              rotate_left; · (intro w hSw; (try dsimp only at hSw); go_simp; try with_reducible rfl)
              try simp only [Act.put, List.setIfInBounds_toArray, List.set_cons_zero, List.set_cons_succ]
              refine twoH_1_3 (by kernel_rfl) (fun K hK => ?_) (fun K hK => ?_)
              · go_simp
                refine hK.out _ _ (trivial) (fun hHeld => ?_)
                clear hK K
                try simp only [Act.put, List.setIfInBounds_toArray, List.set_cons_zero, List.set_cons_succ]
                refine callH3 (by kernel_rfl) (fun K hK => ?_)
                go_simp
                go_at_call 45
                refine (below w0 _ b 6 hdD (by omega)).mono ?_; rintro e w6 ⟨x, rfl, hx6, hd6, hc6⟩
                have bx6 : Box w6 w1.heap.size 54 #[.slice B7 (g.1.length + 1) d7, .slice A9 (g.2.1.length + 1) c9, .slice A2 g.2.2.length c2] := (hc6.block _ bxD.lt (fun e => by have h3 : w1.heap.size = b := e; omega)).trans bxD
                have bz6 : Box w6 w.heap.size 54 #[.slice none 0 0, .slice none 0 0, .slice none 0 0] := (hc6.block _ bzD.lt (fun e => by have h3 : w.heap.size = b := e; omega)).trans bzD
                have g6 := bx6.c2
                have hop6 := hoD.chg hc6 (fun y hy => by have h3 : y = b := hy; omega)
                have hcc6 := chg_then hccD hc6
                have hl6 : w1.heap.size + 1 ≤ w6.heap.size := Nat.le_trans hlw hc6.size
                go_wp2_with fail
                refine hK.out _ _ (trivial) (fun hHeld => ?_)
                clear hK K
                try simp only [Act.put, List.setIfInBounds_toArray, List.set_cons_zero, List.set_cons_succ]
                refine callH4 (by kernel_rfl) (fun K hK => ?_)
                go_simp
                refine hK.out _ _ (trivial) (fun hHeld => ?_)
                clear hK K
                try simp only [Act.put, List.setIfInBounds_toArray, List.set_cons_zero, List.set_cons_succ]
                refine callH5 (by kernel_rfl) (fun K hK => ?_)
                have hbA : Below w6.heap.size w6 (w6.alloc (.cells #[.int .i64 x] 2)) := below_alloc (Nat.le_refl _) (Below.refl _ _)
                have hq1 : RI (w6.alloc (.cells #[.int .i64 x] 2)) (some ⟨w6.heap.size, 0, none⟩) 1 1 [x] := RI.one1 ((Box.new w6 2 #[.int .i64 x]).cell 0)
                have hopA := hop6.below hbA
                have hoA : OI 2 (w6.alloc (.cells #[.int .i64 x] 2)) (w1.heap.size + 1) (.slice A2 g.2.2.length c2) g.2.2 := hopA.row2
                have hlA : w1.heap.size + 1 ≤ (w6.alloc (.cells #[.int .i64 x] 2)).heap.size := Nat.le_trans hl6 hbA.size
                refine step_of_list (by rfl) (wp_appI (.tmp 52) (.tmp 55) (by rfl) (w6.alloc (.cells #[.int .i64 x] 2)) (w1.heap.size + 1) (.slice A2 g.2.2.length c2) g.2.2 (by rfl) hoA (some ⟨w6.heap.size, 0, none⟩) 1 1 [x] (by rfl) hq1 hkz2 (by omega) hlA ?_)
                intro v7 w7 ho7 hb7 hc7 hat7
                obtain ⟨A7, c7, h1e⟩ := ho7.form
                have h1f : v7 = .slice A7 (g.2.2.length + 1) c7 := by rw [h1e]; simp
                clear h1e
                subst h1f
                have hown : ∀ y, (Value.slice A2 g.2.2.length c2).ownBlock = some y → w1.heap.size + 1 ≤ y := fun y hy => (hoA.lt y hy).1
                have hop7 := hopA.set2 hc7 ho7 hat7
                have bx7 : Box w7 w1.heap.size 54 #[.slice B7 (g.1.length + 1) d7, .slice A9 (g.2.1.length + 1) c9, .slice A2 g.2.2.length c2] := (hc7.block _ (bx6.alloc _).lt (fun e => by have := hown _ e; omega)).trans (bx6.alloc _)
                have bz7 : Box w7 w.heap.size 54 #[.slice none 0 0, .slice none 0 0, .slice none 0 0] := (hc7.block _ (bz6.alloc _).lt (fun e => by have := hown _ e; omega)).trans (bz6.alloc _)
                have hd7 := (hd6.on hbA).chg hc7 (fun y hy => by have := hown y hy; omega)
                have hcc7 := (hcc6.then_below hbA (by omega)).push hc7 (fun y hy => .inr (by have := hown y hy; omega))
                have g7 := bx7.c2
                have f7 := bx7.hot 2
                have hl7 := Nat.le_trans hlA hc7.size
                clear hop6 hopA hoA hq1 bx6 bz6 hd6 hcc6 hc6 hbA hat7
                refine hK.out _ _ (trivial) (fun hHeld => ?_)
                clear hK K
                try simp only [Act.put, List.setIfInBounds_toArray, List.set_cons_zero, List.set_cons_succ]
                refine takeH6 (v := ?_) (by kernel_rfl) (by kernel_rfl) (by kernel_rfl) (fun _ _ _ h => h) hHeld (by rfl) ?_ ?_
                rotate_left; · (intro w hSw; (try dsimp only at hSw); go_simp; try with_reducible rfl)
                try simp only [Act.put, List.setIfInBounds_toArray, List.set_cons_zero, List.set_cons_succ]
                refine callH7 (by kernel_rfl) (fun K hK => ?_)
                go_simp
                refine hK.out _ _ (trivial) (fun hHeld => ?_)
                clear hK K
                try simp only [Act.put, List.setIfInBounds_toArray, List.set_cons_zero, List.set_cons_succ]
                refine wpAnyH_done (by kernel_rfl) ?_ _
                have ch8 : Chg (fun y => y = w1.heap.size) w7 (w7.setCell ⟨w1.heap.size, 2, none⟩ (.slice A7 (g.2.2.length + 1) c7)) := Chg.set ⟨w1.heap.size, 2, none⟩ (.slice A7 (g.2.2.length + 1) c7)
                have bxF : Box (w7.setCell ⟨w1.heap.size, 2, none⟩ (.slice A7 (g.2.2.length + 1) c7)) w1.heap.size 54 #[.slice B7 (g.1.length + 1) d7, .slice A9 (g.2.1.length + 1) c9, .slice A7 (g.2.2.length + 1) c7] := bx7.set_ 2 (.slice A7 (g.2.2.length + 1) c7)
                have bzF : Box (w7.setCell ⟨w1.heap.size, 2, none⟩ (.slice A7 (g.2.2.length + 1) c7)) w.heap.size 54 #[.slice none 0 0, .slice none 0 0, .slice none 0 0] := bz7.far (by show w.heap.size ≠ w1.heap.size; omega) _
                have hoF := hop7.chg ch8 (fun y hy => by have h3 : y = w1.heap.size := hy; omega)
                have hdF := hd7.chg ch8 (fun y hy => by have h3 : y = w1.heap.size := hy; omega)
                have hccF := hcc7.push ch8 (fun y hy => .inr (by have h3 : y = w1.heap.size := hy; omega))
                go_wp2
                exact ⟨⟨k + 1, _, _, _, (g.1 ++ [x0], g.2.1 ++ [xs], g.2.2 ++ [x]), by omega, by go_num, parUp_succ HZ.out HX0.out HS.out.2 HS.out.1 hx6, bzF, bxF, hoF, hdF, hccF⟩, by simp [intOf]; omega⟩
              · go_simp
                go_at_call 45
                refine (below w0 _ b 6 hdD (by omega)).mono ?_; rintro e w6 ⟨x, rfl, hx6, hd6, hc6⟩
                have bx6 : Box w6 w1.heap.size 54 #[.slice B7 (g.1.length + 1) d7, .slice A9 (g.2.1.length + 1) c9, .slice A2 g.2.2.length c2] := (hc6.block _ bxD.lt (fun e => by have h3 : w1.heap.size = b := e; omega)).trans bxD
                have bz6 : Box w6 w.heap.size 54 #[.slice none 0 0, .slice none 0 0, .slice none 0 0] := (hc6.block _ bzD.lt (fun e => by have h3 : w.heap.size = b := e; omega)).trans bzD
                have g6 := bx6.c2
                have hop6 := hoD.chg hc6 (fun y hy => by have h3 : y = b := hy; omega)
                have hcc6 := chg_then hccD hc6
                have hl6 : w1.heap.size + 1 ≤ w6.heap.size := Nat.le_trans hlw hc6.size
                have g6A : ∀ o, (w6.alloc o).cell? ⟨w1.heap.size, 2, none⟩ = some (.slice A2 g.2.2.length c2) := fun o => keepA g6
                go_wp2_with fail
                refine hK.out _ _ (trivial) (fun hHeld => ?_)
                clear hK K
                try simp only [Act.put, List.setIfInBounds_toArray, List.set_cons_zero, List.set_cons_succ]
                refine twoH_1_4 (by kernel_rfl) (fun K hK => ?_) (fun K hK => ?_)
                · go_simp
                  refine hK.out _ _ (trivial) (fun hHeld => ?_)
                  clear hK K
                  try simp only [Act.put, List.setIfInBounds_toArray, List.set_cons_zero, List.set_cons_succ]
                  refine callH4 (by kernel_rfl) (fun K hK => ?_)
                  go_simp
                  refine hK.out _ _ (trivial) (fun hHeld => ?_)
                  clear hK K
                  try simp only [Act.put, List.setIfInBounds_toArray, List.set_cons_zero, List.set_cons_succ]
                  refine callH5 (by kernel_rfl) (fun K hK => ?_)
                  have hbA : Below w6.heap.size w6 (w6.alloc (.cells #[.int .i64 x] 2)) := below_alloc (Nat.le_refl _) (Below.refl _ _)
                  have hq1 : RI (w6.alloc (.cells #[.int .i64 x] 2)) (some ⟨w6.heap.size, 0, none⟩) 1 1 [x] := RI.one1 ((Box.new w6 2 #[.int .i64 x]).cell 0)
                  have hopA := hop6.below hbA
                  have hoA : OI 2 (w6.alloc (.cells #[.int .i64 x] 2)) (w1.heap.size + 1) (.slice A2 g.2.2.length c2) g.2.2 := hopA.row2
                  have hlA : w1.heap.size + 1 ≤ (w6.alloc (.cells #[.int .i64 x] 2)).heap.size := Nat.le_trans hl6 hbA.size
                  refine step_of_list (by rfl) (wp_appI (.tmp 52) (.tmp 55) (by rfl) (w6.alloc (.cells #[.int .i64 x] 2)) (w1.heap.size + 1) (.slice A2 g.2.2.length c2) g.2.2 (by rfl) hoA (some ⟨w6.heap.size, 0, none⟩) 1 1 [x] (by rfl) hq1 hkz2 (by omega) hlA ?_)
                  intro v7 w7 ho7 hb7 hc7 hat7
                  obtain ⟨A7, c7, h1e⟩ := ho7.form
                  have h1f : v7 = .slice A7 (g.2.2.length + 1) c7 := by rw [h1e]; simp
                  clear h1e
                  subst h1f
                  have hown : ∀ y, (Value.slice A2 g.2.2.length c2).ownBlock = some y → w1.heap.size + 1 ≤ y := fun y hy => (hoA.lt y hy).1
                  have hop7 := hopA.set2 hc7 ho7 hat7
                  have bx7 : Box w7 w1.heap.size 54 #[.slice B7 (g.1.length + 1) d7, .slice A9 (g.2.1.length + 1) c9, .slice A2 g.2.2.length c2] := (hc7.block _ (bx6.alloc _).lt (fun e => by have := hown _ e; omega)).trans (bx6.alloc _)
                  have bz7 : Box w7 w.heap.size 54 #[.slice none 0 0, .slice none 0 0, .slice none 0 0] := (hc7.block _ (bz6.alloc _).lt (fun e => by have := hown _ e; omega)).trans (bz6.alloc _)
                  have hd7 := (hd6.on hbA).chg hc7 (fun y hy => by have := hown y hy; omega)
                  have hcc7 := (hcc6.then_below hbA (by omega)).push hc7 (fun y hy => .inr (by have := hown y hy; omega))
                  have g7 := bx7.c2
                  have f7 := bx7.hot 2
                  have hl7 := Nat.le_trans hlA hc7.size
                  clear hop6 hopA hoA hq1 bx6 bz6 hd6 hcc6 hc6 hbA hat7
                  refine hK.out _ _ (trivial) (fun hHeld => ?_)
                  clear hK K
                  try simp only [Act.put, List.setIfInBounds_toArray, List.set_cons_zero, List.set_cons_succ]
                  refine takeH6 (v := ?_) (by kernel_rfl) (by kernel_rfl) (by kernel_rfl) (fun _ _ _ h => h) hHeld (by rfl) ?_ ?_
                  rotate_left; · (intro w hSw; (try dsimp only at hSw); go_simp; try with_reducible rfl)
                  try simp only [Act.put, List.setIfInBounds_toArray, List.set_cons_zero, List.set_cons_succ]
                  refine callH7 (by kernel_rfl) (fun K hK => ?_)
                  go_simp
                  refine hK.out _ _ (trivial) (fun hHeld => ?_)
                  clear hK K
                  try simp only [Act.put, List.setIfInBounds_toArray, List.set_cons_zero, List.set_cons_succ]
                  refine wpAnyH_done (by kernel_rfl) ?_ _
                  have ch8 : Chg (fun y => y = w1.heap.size) w7 (w7.setCell ⟨w1.heap.size, 2, none⟩ (.slice A7 (g.2.2.length + 1) c7)) := Chg.set ⟨w1.heap.size, 2, none⟩ (.slice A7 (g.2.2.length + 1) c7)
                  have bxF : Box (w7.setCell ⟨w1.heap.size, 2, none⟩ (.slice A7 (g.2.2.length + 1) c7)) w1.heap.size 54 #[.slice B7 (g.1.length + 1) d7, .slice A9 (g.2.1.length + 1) c9, .slice A7 (g.2.2.length + 1) c7] := bx7.set_ 2 (.slice A7 (g.2.2.length + 1) c7)
                  have bzF : Box (w7.setCell ⟨w1.heap.size, 2, none⟩ (.slice A7 (g.2.2.length + 1) c7)) w.heap.size 54 #[.slice none 0 0, .slice none 0 0, .slice none 0 0] := bz7.far (by show w.heap.size ≠ w1.heap.size; omega) _
                  have hoF := hop7.chg ch8 (fun y hy => by have h3 : y = w1.heap.size := hy; omega)
                  have hdF := hd7.chg ch8 (fun y hy => by have h3 : y = w1.heap.size := hy; omega)
                  have hccF := hcc7.push ch8 (fun y hy => .inr (by have h3 : y = w1.heap.size := hy; omega))
                  go_wp2
                  exact ⟨⟨k + 1, _, _, _, (g.1 ++ [x0], g.2.1 ++ [xs], g.2.2 ++ [x]), by omega, by go_num, parUp_succ HZ.out HX0.out HS.out.2 HS.out.1 hx6, bzF, bxF, hoF, hdF, hccF⟩, by simp [intOf]; omega⟩
                · go_simp
                  refine hK.out _ _ (trivial) (fun hHeld => ?_)
                  clear hK K
                  try simp only [Act.put, List.setIfInBounds_toArray, List.set_cons_zero, List.set_cons_succ]
                  refine callH1 (by kernel_rfl) (fun K hK => ?_)
                  go_simp
                  refine hK.out _ _ (trivial) (fun hHeld => ?_)
                  clear hK K
                  try simp only [Act.put, List.setIfInBounds_toArray, List.set_cons_zero, List.set_cons_succ]
                  refine callH5 (by kernel_rfl) (fun K hK => ?_)
                  have hbA : Below w6.heap.size w6 (w6.alloc (.cells #[.int .i64 x] 2)) := below_alloc (Nat.le_refl _) (Below.refl _ _)
                  have hq1 : RI (w6.alloc (.cells #[.int .i64 x] 2)) (some ⟨w6.heap.size, 0, none⟩) 1 1 [x] := RI.one1 ((Box.new w6 2 #[.int .i64 x]).cell 0)
                  have hopA := hop6.below hbA
                  have hoA : OI 2 (w6.alloc (.cells #[.int .i64 x] 2)) (w1.heap.size + 1) (.slice A2 g.2.2.length c2) g.2.2 := hopA.row2
                  have hlA : w1.heap.size + 1 ≤ (w6.alloc (.cells #[.int .i64 x] 2)).heap.size := Nat.le_trans hl6 hbA.size
                  refine step_of_list (by rfl) (wp_appI (.tmp 52) (.tmp 55) (by rfl) (w6.alloc (.cells #[.int .i64 x] 2)) (w1.heap.size + 1) (.slice A2 g.2.2.length c2) g.2.2 (by rfl) hoA (some ⟨w6.heap.size, 0, none⟩) 1 1 [x] (by rfl) hq1 hkz2 (by omega) hlA ?_)
                  intro v7 w7 ho7 hb7 hc7 hat7
                  obtain ⟨A7, c7, h1e⟩ := ho7.form
                  have h1f : v7 = .slice A7 (g.2.2.length + 1) c7 := by rw [h1e]; simp
                  clear h1e
                  subst h1f
                  have hown : ∀ y, (Value.slice A2 g.2.2.length c2).ownBlock = some y → w1.heap.size + 1 ≤ y := fun y hy => (hoA.lt y hy).1
                  have hop7 := hopA.set2 hc7 ho7 hat7
                  have bx7 : Box w7 w1.heap.size 54 #[.slice B7 (g.1.length + 1) d7, .slice A9 (g.2.1.length + 1) c9, .slice A2 g.2.2.length c2] := (hc7.block _ (bx6.alloc _).lt (fun e => by have := hown _ e; omega)).trans (bx6.alloc _)
                  have bz7 : Box w7 w.heap.size 54 #[.slice none 0 0, .slice none 0 0, .slice none 0 0] := (hc7.block _ (bz6.alloc _).lt (fun e => by have := hown _ e; omega)).trans (bz6.alloc _)
                  have hd7 := (hd6.on hbA).chg hc7 (fun y hy => by have := hown y hy; omega)
                  have hcc7 := (hcc6.then_below hbA (by omega)).push hc7 (fun y hy => .inr (by have := hown y hy; omega))
                  have g7 := bx7.c2
                  have f7 := bx7.hot 2
                  have hl7 := Nat.le_trans hlA hc7.size
                  clear hop6 hopA hoA hq1 bx6 bz6 hd6 hcc6 hc6 hbA hat7
                  refine hK.out _ _ (trivial) (fun hHeld => ?_)
                  clear hK K
                  try simp only [Act.put, List.setIfInBounds_toArray, List.set_cons_zero, List.set_cons_succ]
                  refine takeH6 (v := ?_) (by kernel_rfl) (by kernel_rfl) (by kernel_rfl) (fun _ _ _ h => h) hHeld (by rfl) ?_ ?_
                  rotate_left; · (intro w hSw; (try dsimp only at hSw); go_simp; try with_reducible rfl)
                  try simp only [Act.put, List.setIfInBounds_toArray, List.set_cons_zero, List.set_cons_succ]
                  refine callH7 (by kernel_rfl) (fun K hK => ?_)
                  go_simp
                  refine hK.out _ _ (trivial) (fun hHeld => ?_)
                  clear hK K
                  try simp only [Act.put, List.setIfInBounds_toArray, List.set_cons_zero, List.set_cons_succ]
                  refine wpAnyH_done (by kernel_rfl) ?_ _
                  have ch8 : Chg (fun y => y = w1.heap.size) w7 (w7.setCell ⟨w1.heap.size, 2, none⟩ (.slice A7 (g.2.2.length + 1) c7)) := Chg.set ⟨w1.heap.size, 2, none⟩ (.slice A7 (g.2.2.length + 1) c7)
                  have bxF : Box (w7.setCell ⟨w1.heap.size, 2, none⟩ (.slice A7 (g.2.2.length + 1) c7)) w1.heap.size 54 #[.slice B7 (g.1.length + 1) d7, .slice A9 (g.2.1.length + 1) c9, .slice A7 (g.2.2.length + 1) c7] := bx7.set_ 2 (.slice A7 (g.2.2.length + 1) c7)
                  have bzF : Box (w7.setCell ⟨w1.heap.size, 2, none⟩ (.slice A7 (g.2.2.length + 1) c7)) w.heap.size 54 #[.slice none 0 0, .slice none 0 0, .slice none 0 0] := bz7.far (by show w.heap.size ≠ w1.heap.size; omega) _
                  have hoF := hop7.chg ch8 (fun y hy => by have h3 : y = w1.heap.size := hy; omega)
                  have hdF := hd7.chg ch8 (fun y hy => by have h3 : y = w1.heap.size := hy; omega)
                  have hccF := hcc7.push ch8 (fun y hy => .inr (by have h3 : y = w1.heap.size := hy; omega))
                  go_wp2
                  exact ⟨⟨k + 1, _, _, _, (g.1 ++ [x0], g.2.1 ++ [xs], g.2.2 ++ [x]), by omega, by go_num, parUp_succ HZ.out HX0.out HS.out.2 HS.out.1 hx6, bzF, bxF, hoF, hdF, hccF⟩, by simp [intOf]; omega⟩
    · obtain rfl : m = k := by omega
      obtain ⟨A0, c0, A1, c1, A2, c2, rfl, rfl, rfl⟩ := ho.form
      have p0 := bx.c0; have p1 := bx.c1; have p2 := bx.c2; have e0 := bz.c0; have e1 := bz.c1; have e2 := bz.c2; have f0 := bz.hot 0; have f1 := bz.hot 1; have f2 := bz.hot 2
      have hs2 := hc.size
      have ch := Chg.set3 wr w.heap.size (.slice A0 g.1.length c0) (.slice A1 g.2.1.length c1) (.slice A2 g.2.2.length c2)
      have bF := bz.set3 (.slice A0 g.1.length c0) (.slice A1 g.2.1.length c1) (.slice A2 g.2.2.length c2)
      have R0 := bF.c0; have R1 := bF.c1; have R2 := bF.c2
      have fo := ho.chg ch (fun y hy => by have h3 : y = w.heap.size := hy; omega)
      have fd := hdr.chg ch (fun y hy => by have h3 : y = w.heap.size := hy; omega)
      have fc := hc.push ch (fun y hy => .inr (by have h3 : y = w.heap.size := hy; omega))
      have HA := Lib.hid (show parB g = true ∧ (g.1.length : Int) ≤ most ∧ ∀ v, v < g.2.2.length → gi g.2.2 v < 6 from ⟨parUp_ok HZ.out hm1 hm2, by rw [show g.1.length = m from HZ.out.1.1]; exact HX.out, fun v hv => (HZ.out.2.2 v (by rw [← HZ.out.2.1]; exact hv)).2⟩)
      clear hz1 hz2 hz3
      go_wp2
      exact bodyPost_ret (v := .agg #[.slice A0 g.1.length c0, .slice A1 g.2.1.length c1, .slice A2 g.2.2.length c2]) (by simp [results, Tryd.results44, go_sem, R0, R1, R2]) rfl ⟨_, _, _, g, rfl, HA, fo.more (by omega), fd, fc⟩
end Go.Proofs.YtkhkdnmpbfmmeaaDoor
