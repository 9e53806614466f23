/- Texts that the proof reaches: ParP, TxtP, TxtR, Lays, TxtW. -/
import Derived.Test.YtkhkdnmpbfmmeaaGreatDoorBn2
import Derived.Lib.SplitLaws
import Derived.Lib.Join
import Derived.Lib.ItoaNum
import Derived.Shelf.Strings.SplitShaped
import Derived.Shelf.Strings.OnBuilder
import Derived.Shelf.Strconv.Itoa4
import Derived.Shelf.Small.Wraps
import Derived.Test.YtkhkdnmpbfmmeaaGreatDoorProg
import Derived.Lib.AppendIntMem
namespace Go.Proofs.YtkhkdnmpbfmmeaaGreatDoor
open Go.RowKit

section
variable {B : Nat} {w0 wb w' : World} {br bg : Nat} {s0 s1 s2 t : Value} {g g' : ParD}
end
end Go.Proofs.YtkhkdnmpbfmmeaaGreatDoor
namespace Go.Proofs.YtkhkdnmpbfmmeaaGreatDoor
open Go.RowKit

theorem gi_ins {xs : List Int} {k : Nat} {x : Int} (hk : k ≤ xs.length) (i : Nat) : gi ((xs.take k ++ [x]) ++ xs.drop k) i = if i < k then gi xs i else if i = k then x else gi xs (i - 1) := by
  have hl : (xs.take k).length = k := by rw [List.length_take]; omega
  have hl2 : (xs.take k ++ [x]).length = k + 1 := by rw [List.length_append, hl]; rfl
  unfold gi
  simp only [List.getD_eq_getElem?_getD]
  by_cases h1 : i < k
  · rw [if_pos h1, List.getElem?_append_left (by omega), List.getElem?_append_left (by omega), List.getElem?_take, if_pos h1]
  · rw [if_neg h1]
    by_cases h2 : i = k
    · subst h2
      rw [if_pos rfl, List.getElem?_append_left (by omega), List.getElem?_append_right (by omega), hl]; simp
    · rw [if_neg h2, List.getElem?_append_right (by omega), hl2, List.getElem?_drop, show k + (i - (k + 1)) = i - 1 by omega]
theorem into_set {xs : List Int} {k : Nat} {x : Int} {N : Int} (h : setB xs N = true) (hx : 0 ≤ x ∧ x < N) (hk : k ≤ xs.length) (hlo : ∀ j, j < k → gi xs j < x) (hhi : k < xs.length → x < gi xs k) : setB ((xs.take k ++ [x]) ++ xs.drop k) N = true ∧ 1 ≤ ((xs.take k ++ [x]) ++ xs.drop k).length := by
  have hl : ((xs.take k ++ [x]) ++ xs.drop k).length = xs.length + 1 := by simp; omega
  refine ⟨setB_true.2 fun i hi => ?_, by omega⟩
  rw [hl] at hi
  have hs := setB_true.1 h
  have hr := rises_set h
  unfold setAt
  rw [gi_ins hk, gi_ins hk]
  by_cases h1 : i < k
  · rw [if_pos h1, if_pos (show i - 1 < k by omega)]
    exact hs i (by omega)
  · rw [if_neg h1]
    by_cases h2 : i = k
    · subst h2
      rw [if_pos rfl]
      refine ⟨hx.1, hx.2, fun h0 => ?_⟩
      rw [if_pos (by omega)]
      exact hlo _ (by omega)
    · rw [if_neg h2]
      obtain ⟨a, b, _⟩ := hs (i - 1) (by omega)
      refine ⟨a, b, fun _ => ?_⟩
      rw [if_neg (show ¬ i - 1 < k by omega)]
      by_cases h3 : i - 1 = k
      · rw [if_pos h3, h3]; exact hhi (by omega)
      · rw [if_neg h3]; exact hr _ _ (by omega) (by omega)
theorem ri_drop {w : World} {g n c k : Nat} {xs : List Int} (h : RI w (some ⟨g, 0, none⟩) n c xs) (hk : k ≤ n) : RI w (some ⟨g, k, none⟩) (n - k) (c - k) (xs.drop k) :=
  ⟨by rw [List.length_drop, h.1], ⟨by have := h.cap; omega, by have := h.top; omega⟩, fun i hi => by
    obtain ⟨b, off, e, hc⟩ := h.2.2 (k + i) (by omega)
    injection e with e
    injection e with e1 e2
    subst e1; subst e2
    exact ⟨_, _, rfl, by rw [gi_drop]; simpa using hc⟩⟩
theorem ri_none {w : World} {X : Option Addr} {c : Nat} (hc : c ≤ 9223372036854775807) : RI w X 0 c [] := ⟨rfl, ⟨Nat.zero_le _, hc⟩, fun i hi => absurd hi (by omega)⟩

set_option maxRecDepth 100000 in
set_option maxHeartbeats 800000 in
theorem l1Into (v : Value) (xs : List Int) (x : Int) (N : Nat) (w : World) (lo : Nat) (hlo : lo ≤ w.heap.size) (ho : OI 2 w lo v xs) (hset : setB xs (N : Int) = true) (hx : 0 ≤ x ∧ x < (N : Int)) (hN : N ≤ 256) :
    Calls Tryz.prog 41 #[v, .int .i64 x] w fun e w' => ∃ v' ys, e = .returned v' ∧ OI 2 w' lo v' ys ∧ Hid (setB ys (N : Int) = true ∧ 1 ≤ ys.length) ∧ Below w.heap.size w w' := by
  have hxl : xs.length ≤ 256 := by have := set_len hset (by omega); omega
  have HS := Lib.hid hset
  have HX := Lib.hid hx
  rcases ho.2 with ⟨rfl, hn⟩ | ⟨g, cap, cur, rfl, hrest⟩
  · have hx0 : xs = [] := List.length_eq_zero_iff.1 hn
    subst hx0
    have h0 := HS.out
    have HI := Lib.hid (into_set (k := 0) h0 hx (Nat.zero_le _) (fun j hj => absurd hj (by omega)) (fun h => absurd h (by simp)))
    clear hn hset h0 hx
    go_enter Tryz.func41, Tryz.ntmps41
    go_wp2
    go_loopw [5] (fun i wr => i = .int .i64 0 ∧ Below w.heap.size w wr) (fun _ _ => 0)
    case atStart => exact ⟨rfl, Below.refl _ _⟩
    case round =>
      obtain ⟨rfl, hb⟩ := hrel
      go_wp2_with fail
      refine (l1Copy none 0 0 [] _ _ (Nat.le_refl _) (ri_none (by omega)) (by omega)).mono ?_; rintro e w2 ⟨v2, rfl, ho2, hb2⟩
      go_wp2_with (first
        | (at_builtin; refine wpList_pushI rfl (.tmp 37) (.tmp 39) rfl _ wr.heap.size v2 [] (by rfl) ho2 _ (by rfl) (by simp) hb2.size ?_; intro v3 w3 ho3 hb3 hc3 hat3)
        | (at_builtin; refine wpList_appI rfl (.tmp 41) (.tmp 44) rfl _ wr.heap.size v3 _ (by rfl) ho3 _ _ _ [] (by rfl) (ri_none (by omega)) (by simp) (by omega) (Nat.le_trans hb2.size hb3.size) ?_; intro v4 w4 ho4 hb4 hc4 hat4))
      go_wp2
      go_ret
      exact ⟨_, _, rfl, ho4.more (Nat.le_trans hlo hb.size), HI, ((hb.trans (hb2.mono hb.size)).trans (hb3.mono hb.size)).trans (hb4.mono hb.size)⟩
  · have hr : RI w (some ⟨g, 0, none⟩) xs.length cap xs := ho.reads
    obtain ⟨n, hn⟩ : ∃ n, n = xs.length := ⟨_, rfl⟩
    rw [← hn] at hr hxl
    have HN := Lib.hid hn
    have b1 := hr.cap; have b2 := hr.top
    clear hset hx hrest hn
    rw [← HN.out]
    go_enter Tryz.func41, Tryz.ntmps41
    go_wp2
    go_loopw [5] (fun i wr => ∃ k : Nat, k ≤ n ∧ i = .int .i64 k ∧ Hid (∀ j, j < k → gi xs j < x) ∧ Below w.heap.size w wr) (fun i _ => n - (intOf i).toNat)
    case atStart => exact ⟨0, Nat.zero_le _, rfl, Lib.hid (fun j hj => absurd hj (by omega)), Below.refl _ _⟩
    case round =>
      obtain ⟨k, hk, rfl, HK, hb⟩ := hrel
      have hrr := hr.keep (keeps_below hb)
      have hki0 : (0 : Int) ≤ (k : Int) := by omega
      by_cases hlt : k < n
      · obtain ⟨b_, off, e_, hc⟩ := hrr.at_ hlt
        injection e_ with e_; injection e_ with e1_ e2_
        subst e1_; subst e2_
        rw [Nat.zero_add] at hc
        have hki : (k : Int) < (n : Int) := by omega
        by_cases hless : gi xs k < x
        · have HK2 := Lib.hid (show ∀ j, j < k + 1 → gi xs j < x from fun j hj => by
            by_cases e : j = k
            · subst e; exact hless
            · exact HK.out j (by omega))
          go_wp2
          exact ⟨⟨k + 1, by omega, by go_num, HK2, hb⟩, by simp [intOf]; omega⟩
        · cases heq : (gi xs k == x) with
          | true =>
            have HI := Lib.hid (show setB xs (N : Int) = true ∧ 1 ≤ xs.length from ⟨HS.out, by have := HN.out; omega⟩)
            have hof := ho.below hb
            rw [← HN.out] at hof
            go_wp2
            go_ret
            exact ⟨_, rfl, _, hof, HI, hb⟩
          | false =>
            have hgt : x < gi xs k := by have h3 := beq_eq_false_iff_ne.1 heq; omega
            have HI := Lib.hid (into_set (k := k) HS.out HX.out (by rw [← HN.out]; exact hk) HK.out (fun _ => hgt))
            have hkc : k ≤ cap := by omega
            have hnc : n ≤ cap := b1
            have hkn : (k : Int) ≤ (n : Int) := by omega
            have hkne : ¬ cap = k := by omega
            have hr2 := ri_drop hrr hk
            clear hgt
            go_wp2_with fail
            refine (l1Copy _ _ _ (xs.take k) _ _ (Nat.le_refl _) (hrr.take hk) (by omega)).mono ?_; rintro e w2 ⟨v2, rfl, ho2, hb2⟩
            have hl2 : (xs.take k).length ≤ 4194304 := by rw [List.length_take]; omega
            have hl3 : (xs.take k ++ [x]).length ≤ 4194304 := by rw [List.length_append, List.length_take, List.length_singleton]; omega
            go_wp2_with (first
              | (at_builtin; refine wpList_pushI rfl (.tmp 37) (.tmp 39) rfl _ wr.heap.size v2 (xs.take k) (by rfl) ho2 _ (by rfl) hl2 hb2.size ?_; intro v3 w3 ho3 hb3 hc3 hat3; have hb23 := hb2.trans hb3)
              | (at_builtin; refine wpList_appI rfl (.tmp 41) (.tmp 44) rfl _ wr.heap.size v3 _ (by rfl) ho3 _ _ _ (xs.drop k) (by rfl) (hr2.keep (keeps_below hb23)) hl3 (by omega) hb23.size ?_; intro v4 w4 ho4 hb4 hc4 hat4))
            go_wp2
            go_ret
            exact ⟨_, _, rfl, ho4.more (Nat.le_trans hlo hb.size), HI, (hb.trans (hb23.mono hb.size)).trans (hb4.mono hb.size)⟩
      · obtain rfl : k = n := by omega
        have HI := Lib.hid (into_set (k := k) HS.out HX.out (by rw [← HN.out]; exact hk) HK.out (fun h => absurd h (by have := HN.out; omega)))
        have HD := Lib.hid (show xs.drop k = [] by rw [HN.out]; simp)
        have hkc : k ≤ cap := b1
        by_cases hkne : cap = k
        · have hkne' := hkne.symm
          subst hkne'
          go_wp2_with fail
          refine (l1Copy _ _ _ (xs.take k) _ _ (Nat.le_refl _) (hrr.take hk) (by omega)).mono ?_; rintro e w2 ⟨v2, rfl, ho2, hb2⟩
          have hl2 : (xs.take k).length ≤ 4194304 := by rw [List.length_take]; omega
          have hl3 : (xs.take k ++ [x]).length ≤ 4194304 := by rw [List.length_append, List.length_take, List.length_singleton]; omega
          go_wp2_with (first
            | (at_builtin; refine wpList_pushI rfl (.tmp 37) (.tmp 39) rfl _ wr.heap.size v2 (xs.take k) (by rfl) ho2 _ (by rfl) hl2 hb2.size ?_; intro v3 w3 ho3 hb3 hc3 hat3; have hb23 := hb2.trans hb3)
            | (at_builtin; refine wpList_appI rfl (.tmp 41) (.tmp 44) rfl _ wr.heap.size v3 _ (by rfl) ho3 _ _ _ (xs.drop k) (by rfl) (by rw [HD.out]; exact ri_none (by omega)) hl3 (by omega) hb23.size ?_; intro v4 w4 ho4 hb4 hc4 hat4))
          go_wp2
          go_ret
          first | exact ⟨_, rfl, _, ho4.more (Nat.le_trans hlo hb.size), HI, (hb.trans (hb23.mono hb.size)).trans (hb4.mono hb.size)⟩ | exact ⟨_, _, rfl, ho4.more (Nat.le_trans hlo hb.size), HI, (hb.trans (hb23.mono hb.size)).trans (hb4.mono hb.size)⟩
        · skip
          go_wp2_with fail
          refine (l1Copy _ _ _ (xs.take k) _ _ (Nat.le_refl _) (hrr.take hk) (by omega)).mono ?_; rintro e w2 ⟨v2, rfl, ho2, hb2⟩
          have hl2 : (xs.take k).length ≤ 4194304 := by rw [List.length_take]; omega
          have hl3 : (xs.take k ++ [x]).length ≤ 4194304 := by rw [List.length_append, List.length_take, List.length_singleton]; omega
          go_wp2_with (first
            | (at_builtin; refine wpList_pushI rfl (.tmp 37) (.tmp 39) rfl _ wr.heap.size v2 (xs.take k) (by rfl) ho2 _ (by rfl) hl2 hb2.size ?_; intro v3 w3 ho3 hb3 hc3 hat3; have hb23 := hb2.trans hb3)
            | (at_builtin; refine wpList_appI rfl (.tmp 41) (.tmp 44) rfl _ wr.heap.size v3 _ (by rfl) ho3 _ _ _ (xs.drop k) (by rfl) (by rw [HD.out]; exact ri_none (by omega)) hl3 (by omega) hb23.size ?_; intro v4 w4 ho4 hb4 hc4 hat4))
          go_wp2
          go_ret
          first | exact ⟨_, rfl, _, ho4.more (Nat.le_trans hlo hb.size), HI, (hb.trans (hb23.mono hb.size)).trans (hb4.mono hb.size)⟩ | exact ⟨_, _, rfl, ho4.more (Nat.le_trans hlo hb.size), HI, (hb.trans (hb23.mono hb.size)).trans (hb4.mono hb.size)⟩

set_option maxRecDepth 100000 in
theorem l2Both (A Y : Option Addr) (n c m d : Nat) (xs ys : List Int) (w : World) (hr : RI w A n c xs) (hy : RI w Y m d ys) (h1 : setB xs 256 = true) (h2 : setB ys 256 = true) :
    Calls Tryz.prog 39 #[.slice A n c, .slice Y m d] w fun e w' => e = .returned (.bool true) ∧ Below w.heap.size w w' := by
  have H1 := Lib.hid (show (inR 256 0 256 && setB xs 256) = true by rw [h1]; rfl)
  have H2 := Lib.hid (show (inR 256 0 256 && setB ys 256) = true by rw [h2]; rfl)
  clear h1 h2
  go_enter Tryz.func39, Tryz.ntmps39
  go_wp2_with fail
  refine (SetOk A n c xs 256 _ hr).mono ?_; rintro e w2 ⟨rfl, q2⟩
  rw [H1.out]
  have hb2 := below_qt q2 (Below.refl w.heap.size w)
  go_wp2_with fail
  refine (SetOk Y m d ys 256 _ (hy.keep (keeps_below hb2))).mono ?_; rintro e w3 ⟨rfl, q3⟩
  rw [H2.out]
  have hb3 := below_qt q3 hb2
  go_wp2
  go_ret
  exact ⟨rfl, hb3⟩

set_option maxRecDepth 100000 in
set_option maxHeartbeats 800000 in
theorem bothOf (v : Value) (Y : Option Addr) (d : Nat) (xs : List Int) (y : Int) (N : Nat) (w : World) (lo : Nat) (hlo : lo ≤ w.heap.size) (ho : OI 2 w lo v xs) (hy : RI w Y 1 d [y]) (hset : setB xs (N : Int) = true) (hyN : 0 ≤ y ∧ y < (N : Int)) (hN : N ≤ 256) :
    Calls Tryz.prog 18 #[v, .slice Y 1 d] w fun e w' => ∃ v' ys, e = .returned v' ∧ OI 2 w' w.heap.size v' ys ∧ Hid (setB ys (N : Int) = true ∧ 1 ≤ ys.length) ∧ Below w.heap.size w w' := by
  have hxl : xs.length ≤ 256 := by have := set_len hset (by omega); omega
  obtain ⟨A, c, rfl⟩ := ho.form
  have hr := ho.reads
  have HN := Lib.hid hr.len
  have HS := Lib.hid hset
  have HY := Lib.hid hyN
  have HS2 := Lib.hid (setB_wide hset (show (N : Int) ≤ 256 by omega))
  have HY2 := Lib.hid (show setB [y] 256 = true from setB_true.2 fun i hi => by simp at hi; subst hi; exact ⟨hyN.1, by show y < 256; omega, fun h => absurd h (by omega)⟩)
  clear hset hyN
  go_enter Tryz.func18, Tryz.ntmps18
  go_wp2_with fail
  refine (l2Both _ _ _ _ _ _ _ _ _ hr hy HS2.out HY2.out).mono ?_; rintro e w2 ⟨rfl, hb2⟩
  go_wp2_with fail
  refine (l1Copy _ _ _ xs _ _ (Nat.le_refl _) (hr.keep (keeps_below hb2)) (by omega)).mono ?_; rintro e w3 ⟨v3, rfl, ho3, hb3⟩
  have hw3 := below_then hb3 hb2.size hb2
  replace ho3 := ho3.more hb2.size
  go_wp2
  go_loopw [5, 6] (fun u i wr => ∃ (k : Nat) (zs : List Int), k ≤ 1 ∧ i = .int .i64 k ∧ OI 2 wr w.heap.size u zs ∧ Hid (setB zs (N : Int) = true ∧ (k = 1 → 1 ≤ zs.length)) ∧ Below w.heap.size w wr) (fun _ i _ => 1 - (intOf i).toNat)
  case atStart => exact ⟨0, xs, by omega, rfl, ho3, Lib.hid ⟨HS.out, fun h => absurd h (by omega)⟩, hw3⟩
  case round =>
    clear ho3 hw3 hb3
    obtain ⟨k, zs, hk, rfl, ho, HZ, hb⟩ := hrel
    by_cases hlt : k < 1
    · obtain rfl : k = 0 := by omega
      obtain ⟨b_, off, rfl, hc⟩ := (hy.keep (keeps_below hb)).at_ (i := 0) (by omega)
      rw [show gi [y] 0 = y from rfl, Nat.add_zero] at hc
      go_wp2_with fail
      refine (l1Into u5 zs y N _ _ hb.size ho HZ.out.1 HY.out hN).mono ?_; rintro e w4 ⟨v4, ys, rfl, ho4, HI, hb4⟩
      go_wp2
      exact ⟨⟨1, ys, by omega, by go_num, ho4, Lib.hid ⟨HI.out.1, fun _ => HI.out.2⟩, below_then hb4 hb.size hb⟩, by simp [intOf]⟩
    · obtain rfl : k = 1 := by omega
      have HJ := Lib.hid (show setB zs (N : Int) = true ∧ 1 ≤ zs.length from ⟨HZ.out.1, HZ.out.2 rfl⟩)
      go_wp2
      go_ret
      first | exact ⟨_, rfl, _, ho, HJ, hb⟩ | exact ⟨_, _, rfl, ho, HJ, hb⟩
end Go.Proofs.YtkhkdnmpbfmmeaaGreatDoor
namespace Go.Proofs.YtkhkdnmpbfmmeaaGreatDoor
open Go.RowKit

theorem twoH_2_4 {P : Program} {Q : Exit → Act → World → Prop} {md : Region.Mode} {S : World → Prop} {fuel : Nat} {listed : Array Bool} {a : Act} {w : World} {o0 o1 o2 o3 o4 : Oper} {r : List Oper} (hr : Region.ready md (List.toArray (o0 :: o1 :: o2 :: o3 :: o4 :: r)) listed = [2, 4])
    (h1 : ∀ K' : Act → World → Prop, Shut (∀ a w, S w → (S w → wpAnyH P md (List.toArray (o0 :: o1 :: o2 :: o3 :: o4 :: r)) Q S fuel (listed.setIfInBounds 2 true) a w) → K' a w) → if Region.wanted o2 (yielded (List.toArray (o0 :: o1 :: o2 :: o3 :: o4 :: r)) a.tmps) = true then Oper.wp P o2 a w K' Q else K' (a.put o2.dst undef) w) (h2 : ∀ K' : Act → World → Prop, Shut (∀ a w, S w → (S w → wpAnyH P md (List.toArray (o0 :: o1 :: o2 :: o3 :: o4 :: r)) Q S fuel (listed.setIfInBounds 4 true) a w) → K' a w) → if Region.wanted o4 (yielded (List.toArray (o0 :: o1 :: o2 :: o3 :: o4 :: r)) a.tmps) = true then Oper.wp P o4 a w K' Q else K' (a.put o4.dst undef) w) : wpAnyH P md (List.toArray (o0 :: o1 :: o2 :: o3 :: o4 :: r)) Q S (fuel + 1) listed a w :=
  wpAnyH_ready (rs := [2, 4]) hr (by simp) (AllReadyH.cons rfl h1 (AllReadyH.cons rfl h2 AllReadyH.nil))
theorem twoH_2_5 {P : Program} {Q : Exit → Act → World → Prop} {md : Region.Mode} {S : World → Prop} {fuel : Nat} {listed : Array Bool} {a : Act} {w : World} {o0 o1 o2 o3 o4 o5 : Oper} {r : List Oper} (hr : Region.ready md (List.toArray (o0 :: o1 :: o2 :: o3 :: o4 :: o5 :: r)) listed = [2, 5])
    (h1 : ∀ K' : Act → World → Prop, Shut (∀ a w, S w → (S w → wpAnyH P md (List.toArray (o0 :: o1 :: o2 :: o3 :: o4 :: o5 :: r)) Q S fuel (listed.setIfInBounds 2 true) a w) → K' a w) → if Region.wanted o2 (yielded (List.toArray (o0 :: o1 :: o2 :: o3 :: o4 :: o5 :: r)) a.tmps) = true then Oper.wp P o2 a w K' Q else K' (a.put o2.dst undef) w) (h2 : ∀ K' : Act → World → Prop, Shut (∀ a w, S w → (S w → wpAnyH P md (List.toArray (o0 :: o1 :: o2 :: o3 :: o4 :: o5 :: r)) Q S fuel (listed.setIfInBounds 5 true) a w) → K' a w) → if Region.wanted o5 (yielded (List.toArray (o0 :: o1 :: o2 :: o3 :: o4 :: o5 :: r)) a.tmps) = true then Oper.wp P o5 a w K' Q else K' (a.put o5.dst undef) w) : wpAnyH P md (List.toArray (o0 :: o1 :: o2 :: o3 :: o4 :: o5 :: r)) Q S (fuel + 1) listed a w :=
  wpAnyH_ready (rs := [2, 5]) hr (by simp) (AllReadyH.cons rfl h1 (AllReadyH.cons rfl h2 AllReadyH.nil))

/-- a game by dice, as far as vertex k -/
def parUp (n : Int) (g : ParD) (k : Nat) : Prop := arUp n (g.1, g.2.1) k ∧ g.2.2.length = k ∧ ∀ v, v < k → 0 ≤ gi g.2.2 v ∧ gi g.2.2 v < 6
theorem parUp_zero (n : Int) : parUp n ([], [], []) 0 := ⟨arUp_zero n, rfl, fun v hv => absurd hv (by omega)⟩
theorem parUp_succ {n x0 x : Int} {g : ParD} {k : Nat} {xs : List Int} (h : parUp n g k) (h0 : 0 ≤ x0 ∧ x0 < 2) (hy : 1 ≤ xs.length) (hs : setB xs n = true) (hx : 0 ≤ x ∧ x < 6) : parUp n (g.1 ++ [x0], g.2.1 ++ [xs], g.2.2 ++ [x]) (k + 1) := by
  obtain ⟨h1, h2, h3⟩ := h
  refine ⟨arUp_succ h1 h0 hy hs, by rw [List.length_append, h2]; rfl, fun v hv => ?_⟩
  show 0 ≤ gi (g.2.2 ++ [x]) v ∧ gi (g.2.2 ++ [x]) v < 6
  by_cases e : v < k
  · rw [gi_app_lt (by omega)]; exact h3 v e
  · obtain rfl : v = k := by omega
    rw [show gi (g.2.2 ++ [x]) v = x by rw [← h2]; exact gi_app_eq]
    exact hx
theorem parUp_ok {n : Nat} {g : ParD} (h : parUp (n : Int) g n) (h1 : 1 ≤ n) (h2 : n ≤ 16) : parB g = true := by
  obtain ⟨k1, k2, k3⟩ := h
  exact parB_yes (arUp_ok k1 h1 h2) ⟨by rw [k2]; exact k1.1.symm, fun i hi => by have := k3 i (by omega); omega⟩
/-- a game by dice -/
def GameBy (w0 w : World) (b : Nat) (most : Int) (e : Ending) (w' : World) : Prop :=
  ∃ s0 s1 s2 g, e = .returned (.agg #[s0, s1, s2]) ∧ Hid (parB g = true ∧ (g.1.length : Int) ≤ most ∧ ∀ v, v < g.2.2.length → gi g.2.2 v < 6) ∧ OPar w' w.heap.size s0 s1 s2 g ∧ DiceAt w0 w' b ∧ Chg (fun y => y = b) w w'

set_option maxRecDepth 100000 in
set_option maxHeartbeats 1600000 in
theorem w9Game (w0 w : World) (b : Nat) (most : Int) (hd : DiceAt w0 w b) (h0 : 1 ≤ most) (hn : most ≤ 16) :
    Calls Tryz.prog 6 #[.pointer (some ⟨b, 0, none⟩), .int .i64 most] w (GameBy w0 w b most) := by
  have hdl := hd.lt
  have hba : Below w.heap.size w (w.alloc (.cells #[.slice none 0 0, .slice none 0 0, .slice none 0 0] 32)) := below_alloc (Nat.le_refl _) (Below.refl _ _)
  have bz := Box.new w 32 #[.slice none 0 0, .slice none 0 0, .slice none 0 0]
  go_enter Tryz.func6, Tryz.ntmps6
  go_wp2_with fail
  refine (below w0 _ b most (hd.on hba) h0).mono ?_; rintro e w1 ⟨x, rfl, hx, hd1, hc1⟩
  obtain ⟨x', rfl⟩ := Int.eq_ofNat_of_zero_le hx.1
  have hca : Chg (fun y => y = b) w w1 := chg_then ((Chg.refl _ _).alloc _) hc1
  replace bz : Box w1 w.heap.size 32 #[.slice none 0 0, .slice none 0 0, .slice none 0 0] := (hc1.block _ bz.lt (fun e => by have h3 : w.heap.size = b := e; omega)).trans bz
  have hx16 : x' < 16 := by omega
  obtain ⟨m, hxm⟩ : ∃ m : Nat, 1 + (x' : Int) = (m : Int) := ⟨x' + 1, by omega⟩
  have HX := Lib.hid (show (m : Int) ≤ most by omega)
  have hm1 : 1 ≤ m := by omega
  have hm2 : m ≤ 16 := by omega
  go_wp2
  try simp only [hxm]
  have hs1 := hca.size
  have hs01 : w.heap.size < w1.heap.size := bz.lt
  go_loopw [7] (fun i wr => ∃ (k : Nat) (s0 s1 s2 : Value) (g : ParD), k ≤ m ∧ i = .int .i64 k ∧ parUp (m : Int) g k ∧ Box wr w.heap.size 32 #[.slice none 0 0, .slice none 0 0, .slice none 0 0] ∧ Box wr w1.heap.size 32 #[s0, s1, s2] ∧ OPar wr (w1.heap.size + 1) s0 s1 s2 g ∧ DiceAt w0 wr b ∧ Chg (fun y => y = b) w wr) (fun i _ => m - (intOf i).toNat)
  case atStart => exact ⟨0, _, _, _, ([], [], []), Nat.zero_le _, rfl, parUp_zero _, bz.alloc _, Box.new _ _ _, OPar.nil _ _, hd1.on (below_alloc (Nat.le_refl _) (Below.refl _ _)), hca.alloc _⟩
  case round =>
    clear bz hd1 hca hc1 hd hba
    obtain ⟨k, s0, s1, s2, g, hk, rfl, hz, bz, bx, ho, hdr, hc⟩ := hrel
    have HZ := Lib.hid hz
    have hz1 := hz.1.1; have hz2 := hz.1.2.1; have hz3 := hz.2.1
    clear hz
    by_cases hlt : k < m
    · have hki : (k : Int) < (m : Int) := by omega
      obtain ⟨A0, c0, A1, c1, A2, c2, rfl, rfl, rfl⟩ := ho.form
      have hkz0 : g.1.length ≤ 4194304 := by have h3 : g.1.length = k := hz1; omega
      have hkz1 : g.2.1.length ≤ 4194304 := by have h3 : g.2.1.length = k := hz2; omega
      have hkz2 : g.2.2.length ≤ 4194304 := by omega
      clear hz1 hz2 hz3
      generalize wr = wo at *
      have hbo := bx.lt
      have hso := hc.size
      have hbw1 : b < w1.heap.size := by omega
      have hbE : Below wo.heap.size wo (wo.alloc (.cells #[] 2)) := below_alloc (Nat.le_refl _) (Below.refl _ _)
      have hem := OI.empty (E := 2) (w := wo) (B := wo.heap.size) (Nat.le_refl _)
      have hcw3 : Chg (fun y => y = b) wo (wo.alloc (.cells #[] 2)) := (Chg.refl _ _).alloc _
      go_wp2_with fail
      refine (below w0 _ b 3 (hdr.on hbE) (by omega)).mono ?_; rintro e w4 ⟨x2, rfl, hx2, hd4, hc4⟩
      have hin4 := hem.chg hc4 (fun y hy e => by have h1 := hem.lt y hy; have h3 : y = b := e; omega)
      have hcw4 := chg_then hcw3 hc4
      obtain ⟨t0, ht0⟩ : ∃ t0 : Nat, 1 + x2 = (t0 : Int) := ⟨(1 + x2).toNat, by omega⟩
      have ht1 : 1 ≤ t0 := by omega
      have ht3 : t0 ≤ 3 := by omega
      clear hc4 hem hcw3 hbE
      go_wp2
      try simp only [ht0]
      go_loopw [8, 9] (fun u i wr => ∃ (t : Nat) (xs : List Int), t ≤ 3 ∧ i = .int .i64 t ∧ Hid (setB xs (m : Int) = true ∧ (t = t0 ∨ 1 ≤ xs.length)) ∧ OI 2 wr wo.heap.size u xs ∧ DiceAt w0 wr b ∧ Chg (fun y => y = b) wo wr) (fun _ i _ => (intOf i).toNat)
      case atStart => exact ⟨t0, [], ht3, rfl, Lib.hid ⟨setB_none _, .inl rfl⟩, hin4, hd4, hcw4⟩
      case round =>
        clear hin4 hd4 hcw4
        obtain ⟨t, xs, ht, rfl, HS0, hin, hdr2, hcw⟩ := hrel
        by_cases htp : 0 < t
        · have hti : (0 : Int) < (t : Int) := by omega
          go_wp2_with fail
          refine (below w0 _ b m hdr2 (by omega)).mono ?_; rintro e w5 ⟨y, rfl, hy, hd5, hc5⟩
          have hin5 := hin.chg hc5 (fun y hy e => by have h1 := hin.lt y hy; have h3 : y = b := e; omega)
          have hcw5 := chg_then hcw hc5
          have HY := Lib.hid hy
          have hbA : Below w5.heap.size w5 (w5.alloc (.cells #[.int .i64 y] 2)) := below_alloc (Nat.le_refl _) (Below.refl _ _)
          have hq1 : RI (w5.alloc (.cells #[.int .i64 y] 2)) (some ⟨w5.heap.size, 0, none⟩) 1 1 [y] := RI.one1 ((Box.new w5 2 #[.int .i64 y]).cell 0)
          have hs5 := hcw5.size
          have hlA : wo.heap.size ≤ (w5.alloc (.cells #[.int .i64 y] 2)).heap.size := Nat.le_trans hs5 hbA.size
          clear hy
          go_wp2_with fail
          refine (bothOf u8 _ _ xs y m _ wo.heap.size hlA (hin5.below hbA) hq1 HS0.out.1 HY.out (by omega)).mono ?_; rintro e w6 ⟨v6, ys, rfl, ho6, HS6, hb6⟩
          have hd6 := (hd5.on hbA).on hb6
          have hcw6 := (hcw5.then_below hbA hs5).then_below hb6 hlA
          have HS7 := ho6.more hlA
          clear hin hin5 hdr2 hd5 hcw hcw5 hc5 hbA hq1 hb6 ho6
          go_wp2
          exact ⟨⟨t - 1, ys, by omega, by rw [show ((t - 1 : Nat) : Int) = (t : Int) - 1 by omega], Lib.hid ⟨HS6.out.1, .inr HS6.out.2⟩, HS7, hd6, hcw6⟩, by simp [intOf]; omega⟩
        · obtain rfl : t = 0 := by omega
          rw [show ((0 : Nat) : Int) = 0 from rfl]
          have HS := Lib.hid (show setB xs (m : Int) = true ∧ 1 ≤ xs.length from ⟨HS0.out.1, HS0.out.2.resolve_left (by omega)⟩)
          obtain ⟨Av, cv, rfl⟩ := hin.form
          have hlo : w1.heap.size + 1 ≤ wo.heap.size := hbo
          have hop := ParX.of ho hlo hcw (fun y hy => by have h3 : y = b := hy; omega) hin
          have bz2 : Box wr w.heap.size 32 #[.slice none 0 0, .slice none 0 0, .slice none 0 0] := (hcw.block _ bz.lt (fun e => by have h3 : w.heap.size = b := e; omega)).trans bz
          have bx2 : Box wr w1.heap.size 32 #[.slice A0 g.1.length c0, .slice A1 g.2.1.length c1, .slice A2 g.2.2.length c2] := (hcw.block _ bx.lt (fun e => by have h3 : w1.heap.size = b := e; omega)).trans bx
          have hcc := hc.push hcw (fun y hy => .inl hy)
          have hlw : w1.heap.size + 1 ≤ wr.heap.size := by have := hcw.size; omega
          clear hin hcw ho bz bx hc hbo HS0 ht1 ht3 ht0
          go_wp2_with fail
          refine wp_region_held_drew (S := fun _ => True) (by kernel_rfl) trivial (fun hHeld => ?_)
          replace hop := hop.below (Below.drew (Below.refl _ _))
          replace bz2 : Box wr.drew _ _ _ := bz2
          replace bx2 : Box wr.drew _ _ _ := bx2
          replace hdr2 := hdr2.on (Below.drew (Below.refl _ _))
          replace hcc : Chg (fun y => y = b) w wr.drew := hcc.drewN 1
          replace hlw : w1.heap.size + 1 ≤ wr.drew.heap.size := hlw
          generalize wr.drew = wD at *
          have g0 := bx2.c0
          refine takeH0 (v := ?_) (by kernel_rfl) (by kernel_rfl) (by kernel_rfl) (fun _ _ _ h => h) hHeld (by rfl) ?_ ?_
          rotate_left; · (intro w hSw; (try dsimp only at hSw); go_simp; try with_reducible rfl)
          try simp only [Act.put, List.setIfInBounds_toArray, List.set_cons_zero, List.set_cons_succ]
          refine takeH1 (v := ?_) (by kernel_rfl) (by kernel_rfl) (by kernel_rfl) (fun _ _ _ h => h) hHeld (by rfl) ?_ ?_
          rotate_left; · (intro w hSw; (try dsimp only at hSw); go_simp; try with_reducible rfl)
          try simp only [Act.put, List.setIfInBounds_toArray, List.set_cons_zero, List.set_cons_succ]
          refine takeH3 (v := ?_) (by kernel_rfl) (by kernel_rfl) (by kernel_rfl) (fun _ _ _ h => h) hHeld (by rfl) ?_ ?_
          rotate_left; · (intro w hSw; (try dsimp only at hSw); go_simp; try with_reducible rfl)
          try simp only [Act.put, List.setIfInBounds_toArray, List.set_cons_zero, List.set_cons_succ]
          refine twoH_2_4 (by kernel_rfl) (fun K hK => ?_) (fun K hK => ?_)
          · go_simp
            refine hK.out _ _ (trivial) (fun hHeld => ?_)
            clear hK K
            try simp only [Act.put, List.setIfInBounds_toArray, List.set_cons_zero, List.set_cons_succ]
            refine callH4 (by kernel_rfl) (fun K hK => ?_)
            go_simp
            go_at_call 17
            refine (below w0 _ b 2 hdr2 (by omega)).mono ?_; rintro e w6 ⟨x, rfl, hx6, hd6, hc6⟩
            have bx6 : Box w6 w1.heap.size 32 #[.slice A0 g.1.length c0, .slice A1 g.2.1.length c1, .slice A2 g.2.2.length c2] := (hc6.block _ bx2.lt (fun e => by have h3 : w1.heap.size = b := e; omega)).trans bx2
            have bz6 : Box w6 w.heap.size 32 #[.slice none 0 0, .slice none 0 0, .slice none 0 0] := (hc6.block _ bz2.lt (fun e => by have h3 : w.heap.size = b := e; omega)).trans bz2
            have g6 := bx6.c0
            have hop6 := hop.chg hc6 (fun y hy => by have h3 : y = b := hy; omega)
            have hcc6 := chg_then hcc hc6
            have hl6 : w1.heap.size + 1 ≤ w6.heap.size := Nat.le_trans hlw hc6.size
            go_wp2_with fail
            refine hK.out _ _ (trivial) (fun hHeld => ?_)
            clear hK K
            try simp only [Act.put, List.setIfInBounds_toArray, List.set_cons_zero, List.set_cons_succ]
            refine callH5 (by kernel_rfl) (fun K hK => ?_)
            go_simp
            refine hK.out _ _ (trivial) (fun hHeld => ?_)
            clear hK K
            try simp only [Act.put, List.setIfInBounds_toArray, List.set_cons_zero, List.set_cons_succ]
            refine callH6 (by kernel_rfl) (fun K hK => ?_)
            have hbA : Below w6.heap.size w6 (w6.alloc (.cells #[.int .i64 x] 2)) := below_alloc (Nat.le_refl _) (Below.refl _ _)
            have hq1 : RI (w6.alloc (.cells #[.int .i64 x] 2)) (some ⟨w6.heap.size, 0, none⟩) 1 1 [x] := RI.one1 ((Box.new w6 2 #[.int .i64 x]).cell 0)
            have hopA := hop6.below hbA
            have hoA : OI 2 (w6.alloc (.cells #[.int .i64 x] 2)) (w1.heap.size + 1) (.slice A0 g.1.length c0) g.1 := by obtain ⟨cs, h1, _⟩ := hopA; exact h1.1
            have hlA : w1.heap.size + 1 ≤ (w6.alloc (.cells #[.int .i64 x] 2)).heap.size := Nat.le_trans hl6 hbA.size
            refine step_of_list (by rfl) (wp_appI (.tmp 36) (.tmp 39) (by rfl) (w6.alloc (.cells #[.int .i64 x] 2)) (w1.heap.size + 1) (.slice A0 g.1.length c0) g.1 (by rfl) hoA (some ⟨w6.heap.size, 0, none⟩) 1 1 [x] (by rfl) hq1 hkz0 (by omega) hlA ?_)
            intro v7 w7 ho7 hb7 hc7 hat7
            obtain ⟨A7, c7, h1e⟩ := ho7.form
            have h1f : v7 = .slice A7 (g.1.length + 1) c7 := by rw [h1e]; simp
            clear h1e
            subst h1f
            have hown : ∀ y, (Value.slice A0 g.1.length c0).ownBlock = some y → w1.heap.size + 1 ≤ y := fun y hy => (hoA.lt y hy).1
            have hop7 := hopA.put0 hc7 ho7 hat7
            have bx7 : Box w7 w1.heap.size 32 #[.slice A0 g.1.length c0, .slice A1 g.2.1.length c1, .slice A2 g.2.2.length c2] := (hc7.block _ (bx6.alloc _).lt (fun e => by have := hown _ e; omega)).trans (bx6.alloc _)
            have bz7 : Box w7 w.heap.size 32 #[.slice none 0 0, .slice none 0 0, .slice none 0 0] := (hc7.block _ (bz6.alloc _).lt (fun e => by have := hown _ e; omega)).trans (bz6.alloc _)
            have hd7 := (hd6.on hbA).chg hc7 (fun y hy => by have := hown y hy; omega)
            have hcc7 := (hcc6.then_below hbA (by omega)).push hc7 (fun y hy => .inr (by have := hown y hy; omega))
            have g7 := bx7.c0
            have f7 := bx7.hot 0
            have hl7 := Nat.le_trans hlA hc7.size
            clear hop6 hopA hoA hq1 bx6 bz6 hd6 hcc6 hc6 hbA hat7
            refine hK.out _ _ (trivial) (fun hHeld => ?_)
            clear hK K
            try simp only [Act.put, List.setIfInBounds_toArray, List.set_cons_zero, List.set_cons_succ]
            refine takeH7 (v := ?_) (by kernel_rfl) (by kernel_rfl) (by kernel_rfl) (fun _ _ _ h => h) hHeld (by rfl) ?_ ?_
            rotate_left; · (intro w hSw; (try dsimp only at hSw); go_simp; try with_reducible rfl)
            try simp only [Act.put, List.setIfInBounds_toArray, List.set_cons_zero, List.set_cons_succ]
            refine takeH8 (v := ?_) (by kernel_rfl) (by kernel_rfl) (by kernel_rfl) (fun _ _ _ h => h) hHeld (by rfl) ?_ ?_
            rotate_left; · (intro w hSw; (try dsimp only at hSw); go_simp; try with_reducible rfl)
            try simp only [Act.put, List.setIfInBounds_toArray, List.set_cons_zero, List.set_cons_succ]
            refine callH9 (by kernel_rfl) (fun K hK => ?_)
            go_simp
            refine hK.out _ _ (trivial) (fun hHeld => ?_)
            clear hK K
            try simp only [Act.put, List.setIfInBounds_toArray, List.set_cons_zero, List.set_cons_succ]
            refine wpAnyH_done (by kernel_rfl) ?_ _
            have ch8 : Chg (fun y => y = w1.heap.size) w7 (w7.setCell ⟨w1.heap.size, 0, none⟩ (.slice A7 (g.1.length + 1) c7)) := Chg.set ⟨w1.heap.size, 0, none⟩ (.slice A7 (g.1.length + 1) c7)
            have bx8 : Box (w7.setCell ⟨w1.heap.size, 0, none⟩ (.slice A7 (g.1.length + 1) c7)) w1.heap.size 32 #[.slice A7 (g.1.length + 1) c7, .slice A1 g.2.1.length c1, .slice A2 g.2.2.length c2] := bx7.set_ 0 (.slice A7 (g.1.length + 1) c7)
            have bz8 : Box (w7.setCell ⟨w1.heap.size, 0, none⟩ (.slice A7 (g.1.length + 1) c7)) w.heap.size 32 #[.slice none 0 0, .slice none 0 0, .slice none 0 0] := bz7.far (by show w.heap.size ≠ w1.heap.size; omega) _
            have hop8 := hop7.chg ch8 (fun y hy => by have h3 : y = w1.heap.size := hy; omega)
            have hd8 := hd7.chg ch8 (fun y hy => by have h3 : y = w1.heap.size := hy; omega)
            have hcc8 := hcc7.push ch8 (fun y hy => .inr (by have h3 : y = w1.heap.size := hy; omega))
            have g18 := bx8.c1
            have hl8 := Nat.le_trans hl7 ch8.size
            have HX0 := Lib.hid hx6
            clear hop7 hd7 hcc7 ch8 bx7 bz7 g7 f7 hb7 hc7 ho7
            generalize (w7.setCell ⟨w1.heap.size, 0, none⟩ (.slice A7 (g.1.length + 1) c7)) = w8 at *
            obtain ⟨B7, hB7⟩ : ∃ z, z = A7 := ⟨_, rfl⟩
            obtain ⟨d7, hd7⟩ : ∃ z, z = c7 := ⟨_, rfl⟩
            obtain ⟨x0, hx0⟩ : ∃ z, z = x := ⟨_, rfl⟩
            subst hB7; subst hd7; subst hx0
            go_wp2_with (at_builtin; go_loud (refine wpList_pushX rfl (.tmp 45) (.tmp 47) (by rfl) w8 (w1.heap.size + 1) (.slice B7 (g.1.length + 1) d7) (.slice A1 g.2.1.length c1) (.slice A2 g.2.2.length c2) (.slice Av xs.length cv) (g.1 ++ [x0], g.2.1, g.2.2) xs (by rfl) (by rfl) hl8 hop8 hkz1 ?_; intro t1 w9 ho9 hb9 hc9 hat9; obtain ⟨A8, c8, A9, c9, A10, c10, h0e9, h1e9, h2e9⟩ := ho9.form; have h1e : t1 = .slice A9 (g.2.1.length + 1) c9 := (by rw [h1e9]; simp); clear h0e9 h1e9 h2e9 hat9; subst h1e; have hown9 : ∀ y, (Value.slice A1 g.2.1.length c1).ownBlock = some y → w1.heap.size + 1 ≤ y := fun y hy => hop8.old1 y hy; have bx9 : Box w9 w1.heap.size 32 #[.slice B7 (g.1.length + 1) d7, .slice A1 g.2.1.length c1, .slice A2 g.2.2.length c2] := (hc9.block _ bx8.lt (fun e => by have := hown9 _ e; omega)).trans bx8; have g9 := bx9.c1; have f9 := bx9.hot 1))
            have hl9 := hc9.size
            have ch9 : Chg (fun y => y = w1.heap.size) w9 (w9.setCell ⟨w1.heap.size, 1, none⟩ (.slice A9 (g.2.1.length + 1) c9)) := Chg.set ⟨w1.heap.size, 1, none⟩ (.slice A9 (g.2.1.length + 1) c9)
            have bz9 : Box (w9.setCell ⟨w1.heap.size, 1, none⟩ (.slice A9 (g.2.1.length + 1) c9)) w.heap.size 32 #[.slice none 0 0, .slice none 0 0, .slice none 0 0] := Box.far ((hc9.block _ bz8.lt (fun e => by have := hown9 _ e; omega)).trans bz8) (by show w.heap.size ≠ w1.heap.size; omega) _
            have bx10 : Box (w9.setCell ⟨w1.heap.size, 1, none⟩ (.slice A9 (g.2.1.length + 1) c9)) w1.heap.size 32 #[.slice B7 (g.1.length + 1) d7, .slice A9 (g.2.1.length + 1) c9, .slice A2 g.2.2.length c2] := bx9.set_ 1 (.slice A9 (g.2.1.length + 1) c9)
            have ho10 := ho9.chg ch9 (fun y hy => by have h3 : y = w1.heap.size := hy; omega)
            have hd10 := (hd8.chg hc9 (fun y hy => by have := hown9 y hy; omega)).chg ch9 (fun y hy => by have h3 : y = w1.heap.size := hy; omega)
            have hcc10 := (hcc8.push hc9 (fun y hy => .inr (by have := hown9 y hy; omega))).push ch9 (fun y hy => .inr (by have h3 : y = w1.heap.size := hy; omega))
            have hl10 := ch9.size
            clear ho9 hb9 hc9 bx9 bx8 bz8 hop8 hd8 hcc8 ch9 g9 f9 g18
            generalize (w9.setCell ⟨w1.heap.size, 1, none⟩ (.slice A9 (g.2.1.length + 1) c9)) = w10 at *
            go_wp2_with fail
            refine wp_region_held_drew (S := fun _ => True) (by kernel_rfl) trivial (fun hHeld => ?_)
            have hoD : OPar w10.drew (w1.heap.size + 1) (.slice B7 (g.1.length + 1) d7) (.slice A9 (g.2.1.length + 1) c9) (.slice A2 g.2.2.length c2) (g.1 ++ [x0], g.2.1 ++ [xs], g.2.2) := ho10.below (Below.drew (Below.refl _ _))
            have bzD : Box w10.drew w.heap.size 32 #[.slice none 0 0, .slice none 0 0, .slice none 0 0] := bz9
            have bxD : Box w10.drew w1.heap.size 32 #[.slice B7 (g.1.length + 1) d7, .slice A9 (g.2.1.length + 1) c9, .slice A2 g.2.2.length c2] := bx10
            have hdD := hd10.on (Below.drew (Below.refl w10.heap.size w10))
            have hccD : Chg (fun y => y = b) w w10.drew := hcc10.drewN 1
            have hlw : w1.heap.size + 1 ≤ w10.drew.heap.size := Nat.le_trans (Nat.le_trans hl8 hl9) hl10
            clear ho10 bz9 bx10 hd10 hcc10
            generalize w10.drew = wE at *
            have g2D := bxD.c2
            clear hx6
            refine takeH0 (v := ?_) (by kernel_rfl) (by kernel_rfl) (by kernel_rfl) (fun _ _ _ h => h) hHeld (by rfl) ?_ ?_
            rotate_left; · (intro w hSw; (try dsimp only at hSw); go_simp; try with_reducible rfl)
            try simp only [Act.put, List.setIfInBounds_toArray, List.set_cons_zero, List.set_cons_succ]
            refine takeH2 (v := ?_) (by kernel_rfl) (by kernel_rfl) (by kernel_rfl) (fun _ _ _ h => h) hHeld (by rfl) ?_ ?_
            rotate_left; · (intro w hSw; (try dsimp only at hSw); go_simp; try with_reducible rfl)
            try simp only [Act.put, List.setIfInBounds_toArray, List.set_cons_zero, List.set_cons_succ]
            refine twoH_1_3 (by kernel_rfl) (fun K hK => ?_) (fun K hK => ?_)
            · go_simp
              refine hK.out _ _ (trivial) (fun hHeld => ?_)
              clear hK K
              try simp only [Act.put, List.setIfInBounds_toArray, List.set_cons_zero, List.set_cons_succ]
              refine callH3 (by kernel_rfl) (fun K hK => ?_)
              go_simp
              go_at_call 17
              refine (below w0 _ b 6 hdD (by omega)).mono ?_; rintro e w6 ⟨x, rfl, hx6, hd6, hc6⟩
              have bx6 : Box w6 w1.heap.size 32 #[.slice B7 (g.1.length + 1) d7, .slice A9 (g.2.1.length + 1) c9, .slice A2 g.2.2.length c2] := (hc6.block _ bxD.lt (fun e => by have h3 : w1.heap.size = b := e; omega)).trans bxD
              have bz6 : Box w6 w.heap.size 32 #[.slice none 0 0, .slice none 0 0, .slice none 0 0] := (hc6.block _ bzD.lt (fun e => by have h3 : w.heap.size = b := e; omega)).trans bzD
              have g6 := bx6.c2
              have hop6 := hoD.chg hc6 (fun y hy => by have h3 : y = b := hy; omega)
              have hcc6 := chg_then hccD hc6
              have hl6 : w1.heap.size + 1 ≤ w6.heap.size := Nat.le_trans hlw hc6.size
              go_wp2_with fail
              refine hK.out _ _ (trivial) (fun hHeld => ?_)
              clear hK K
              try simp only [Act.put, List.setIfInBounds_toArray, List.set_cons_zero, List.set_cons_succ]
              refine callH4 (by kernel_rfl) (fun K hK => ?_)
              go_simp
              refine hK.out _ _ (trivial) (fun hHeld => ?_)
              clear hK K
              try simp only [Act.put, List.setIfInBounds_toArray, List.set_cons_zero, List.set_cons_succ]
              refine callH5 (by kernel_rfl) (fun K hK => ?_)
              have hbA : Below w6.heap.size w6 (w6.alloc (.cells #[.int .i64 x] 2)) := below_alloc (Nat.le_refl _) (Below.refl _ _)
              have hq1 : RI (w6.alloc (.cells #[.int .i64 x] 2)) (some ⟨w6.heap.size, 0, none⟩) 1 1 [x] := RI.one1 ((Box.new w6 2 #[.int .i64 x]).cell 0)
              have hopA := hop6.below hbA
              have hoA : OI 2 (w6.alloc (.cells #[.int .i64 x] 2)) (w1.heap.size + 1) (.slice A2 g.2.2.length c2) g.2.2 := hopA.row2
              have hlA : w1.heap.size + 1 ≤ (w6.alloc (.cells #[.int .i64 x] 2)).heap.size := Nat.le_trans hl6 hbA.size
              refine step_of_list (by rfl) (wp_appI (.tmp 52) (.tmp 55) (by rfl) (w6.alloc (.cells #[.int .i64 x] 2)) (w1.heap.size + 1) (.slice A2 g.2.2.length c2) g.2.2 (by rfl) hoA (some ⟨w6.heap.size, 0, none⟩) 1 1 [x] (by rfl) hq1 hkz2 (by omega) hlA ?_)
              intro v7 w7 ho7 hb7 hc7 hat7
              obtain ⟨A7, c7, h1e⟩ := ho7.form
              have h1f : v7 = .slice A7 (g.2.2.length + 1) c7 := by rw [h1e]; simp
              clear h1e
              subst h1f
              have hown : ∀ y, (Value.slice A2 g.2.2.length c2).ownBlock = some y → w1.heap.size + 1 ≤ y := fun y hy => (hoA.lt y hy).1
              have hop7 := hopA.set2 hc7 ho7 hat7
              have bx7 : Box w7 w1.heap.size 32 #[.slice B7 (g.1.length + 1) d7, .slice A9 (g.2.1.length + 1) c9, .slice A2 g.2.2.length c2] := (hc7.block _ (bx6.alloc _).lt (fun e => by have := hown _ e; omega)).trans (bx6.alloc _)
              have bz7 : Box w7 w.heap.size 32 #[.slice none 0 0, .slice none 0 0, .slice none 0 0] := (hc7.block _ (bz6.alloc _).lt (fun e => by have := hown _ e; omega)).trans (bz6.alloc _)
              have hd7 := (hd6.on hbA).chg hc7 (fun y hy => by have := hown y hy; omega)
              have hcc7 := (hcc6.then_below hbA (by omega)).push hc7 (fun y hy => .inr (by have := hown y hy; omega))
              have g7 := bx7.c2
              have f7 := bx7.hot 2
              have hl7 := Nat.le_trans hlA hc7.size
              clear hop6 hopA hoA hq1 bx6 bz6 hd6 hcc6 hc6 hbA hat7
              refine hK.out _ _ (trivial) (fun hHeld => ?_)
              clear hK K
              try simp only [Act.put, List.setIfInBounds_toArray, List.set_cons_zero, List.set_cons_succ]
              refine takeH6 (v := ?_) (by kernel_rfl) (by kernel_rfl) (by kernel_rfl) (fun _ _ _ h => h) hHeld (by rfl) ?_ ?_
              rotate_left; · (intro w hSw; (try dsimp only at hSw); go_simp; try with_reducible rfl)
              try simp only [Act.put, List.setIfInBounds_toArray, List.set_cons_zero, List.set_cons_succ]
              refine callH7 (by kernel_rfl) (fun K hK => ?_)
              go_simp
              refine hK.out _ _ (trivial) (fun hHeld => ?_)
              clear hK K
              try simp only [Act.put, List.setIfInBounds_toArray, List.set_cons_zero, List.set_cons_succ]
              refine wpAnyH_done (by kernel_rfl) ?_ _
              have ch8 : Chg (fun y => y = w1.heap.size) w7 (w7.setCell ⟨w1.heap.size, 2, none⟩ (.slice A7 (g.2.2.length + 1) c7)) := Chg.set ⟨w1.heap.size, 2, none⟩ (.slice A7 (g.2.2.length + 1) c7)
              have bxF : Box (w7.setCell ⟨w1.heap.size, 2, none⟩ (.slice A7 (g.2.2.length + 1) c7)) w1.heap.size 32 #[.slice B7 (g.1.length + 1) d7, .slice A9 (g.2.1.length + 1) c9, .slice A7 (g.2.2.length + 1) c7] := bx7.set_ 2 (.slice A7 (g.2.2.length + 1) c7)
              have bzF : Box (w7.setCell ⟨w1.heap.size, 2, none⟩ (.slice A7 (g.2.2.length + 1) c7)) w.heap.size 32 #[.slice none 0 0, .slice none 0 0, .slice none 0 0] := bz7.far (by show w.heap.size ≠ w1.heap.size; omega) _
              have hoF := hop7.chg ch8 (fun y hy => by have h3 : y = w1.heap.size := hy; omega)
              have hdF := hd7.chg ch8 (fun y hy => by have h3 : y = w1.heap.size := hy; omega)
              have hccF := hcc7.push ch8 (fun y hy => .inr (by have h3 : y = w1.heap.size := hy; omega))
              go_wp2
              exact ⟨⟨k + 1, _, _, _, (g.1 ++ [x0], g.2.1 ++ [xs], g.2.2 ++ [x]), by omega, by go_num, parUp_succ HZ.out HX0.out HS.out.2 HS.out.1 hx6, bzF, bxF, hoF, hdF, hccF⟩, by simp [intOf]; omega⟩
            · go_simp
              go_at_call 17
              refine (below w0 _ b 6 hdD (by omega)).mono ?_; rintro e w6 ⟨x, rfl, hx6, hd6, hc6⟩
              have bx6 : Box w6 w1.heap.size 32 #[.slice B7 (g.1.length + 1) d7, .slice A9 (g.2.1.length + 1) c9, .slice A2 g.2.2.length c2] := (hc6.block _ bxD.lt (fun e => by have h3 : w1.heap.size = b := e; omega)).trans bxD
              have bz6 : Box w6 w.heap.size 32 #[.slice none 0 0, .slice none 0 0, .slice none 0 0] := (hc6.block _ bzD.lt (fun e => by have h3 : w.heap.size = b := e; omega)).trans bzD
              have g6 := bx6.c2
              have hop6 := hoD.chg hc6 (fun y hy => by have h3 : y = b := hy; omega)
              have hcc6 := chg_then hccD hc6
              have hl6 : w1.heap.size + 1 ≤ w6.heap.size := Nat.le_trans hlw hc6.size
              have g6A : ∀ o, (w6.alloc o).cell? ⟨w1.heap.size, 2, none⟩ = some (.slice A2 g.2.2.length c2) := fun o => keepA g6
              go_wp2_with fail
              refine hK.out _ _ (trivial) (fun hHeld => ?_)
              clear hK K
              try simp only [Act.put, List.setIfInBounds_toArray, List.set_cons_zero, List.set_cons_succ]
              refine twoH_1_4 (by kernel_rfl) (fun K hK => ?_) (fun K hK => ?_)
              · go_simp
                refine hK.out _ _ (trivial) (fun hHeld => ?_)
                clear hK K
                try simp only [Act.put, List.setIfInBounds_toArray, List.set_cons_zero, List.set_cons_succ]
                refine callH4 (by kernel_rfl) (fun K hK => ?_)
                go_simp
                refine hK.out _ _ (trivial) (fun hHeld => ?_)
                clear hK K
                try simp only [Act.put, List.setIfInBounds_toArray, List.set_cons_zero, List.set_cons_succ]
                refine callH5 (by kernel_rfl) (fun K hK => ?_)
                have hbA : Below w6.heap.size w6 (w6.alloc (.cells #[.int .i64 x] 2)) := below_alloc (Nat.le_refl _) (Below.refl _ _)
                have hq1 : RI (w6.alloc (.cells #[.int .i64 x] 2)) (some ⟨w6.heap.size, 0, none⟩) 1 1 [x] := RI.one1 ((Box.new w6 2 #[.int .i64 x]).cell 0)
                have hopA := hop6.below hbA
                have hoA : OI 2 (w6.alloc (.cells #[.int .i64 x] 2)) (w1.heap.size + 1) (.slice A2 g.2.2.length c2) g.2.2 := hopA.row2
                have hlA : w1.heap.size + 1 ≤ (w6.alloc (.cells #[.int .i64 x] 2)).heap.size := Nat.le_trans hl6 hbA.size
                refine step_of_list (by rfl) (wp_appI (.tmp 52) (.tmp 55) (by rfl) (w6.alloc (.cells #[.int .i64 x] 2)) (w1.heap.size + 1) (.slice A2 g.2.2.length c2) g.2.2 (by rfl) hoA (some ⟨w6.heap.size, 0, none⟩) 1 1 [x] (by rfl) hq1 hkz2 (by omega) hlA ?_)
                intro v7 w7 ho7 hb7 hc7 hat7
                obtain ⟨A7, c7, h1e⟩ := ho7.form
                have h1f : v7 = .slice A7 (g.2.2.length + 1) c7 := by rw [h1e]; simp
                clear h1e
                subst h1f
                have hown : ∀ y, (Value.slice A2 g.2.2.length c2).ownBlock = some y → w1.heap.size + 1 ≤ y := fun y hy => (hoA.lt y hy).1
                have hop7 := hopA.set2 hc7 ho7 hat7
                have bx7 : Box w7 w1.heap.size 32 #[.slice B7 (g.1.length + 1) d7, .slice A9 (g.2.1.length + 1) c9, .slice A2 g.2.2.length c2] := (hc7.block _ (bx6.alloc _).lt (fun e => by have := hown _ e; omega)).trans (bx6.alloc _)
                have bz7 : Box w7 w.heap.size 32 #[.slice none 0 0, .slice none 0 0, .slice none 0 0] := (hc7.block _ (bz6.alloc _).lt (fun e => by have := hown _ e; omega)).trans (bz6.alloc _)
                have hd7 := (hd6.on hbA).chg hc7 (fun y hy => by have := hown y hy; omega)
                have hcc7 := (hcc6.then_below hbA (by omega)).push hc7 (fun y hy => .inr (by have := hown y hy; omega))
                have g7 := bx7.c2
                have f7 := bx7.hot 2
                have hl7 := Nat.le_trans hlA hc7.size
                clear hop6 hopA hoA hq1 bx6 bz6 hd6 hcc6 hc6 hbA hat7
                refine hK.out _ _ (trivial) (fun hHeld => ?_)
                clear hK K
                try simp only [Act.put, List.setIfInBounds_toArray, List.set_cons_zero, List.set_cons_succ]
                refine takeH6 (v := ?_) (by kernel_rfl) (by kernel_rfl) (by kernel_rfl) (fun _ _ _ h => h) hHeld (by rfl) ?_ ?_
                rotate_left; · (intro w hSw; (try dsimp only at hSw); go_simp; try with_reducible rfl)
                try simp only [Act.put, List.setIfInBounds_toArray, List.set_cons_zero, List.set_cons_succ]
                refine callH7 (by kernel_rfl) (fun K hK => ?_)
                go_simp
                refine hK.out _ _ (trivial) (fun hHeld => ?_)
                clear hK K
                try simp only [Act.put, List.setIfInBounds_toArray, List.set_cons_zero, List.set_cons_succ]
                refine wpAnyH_done (by kernel_rfl) ?_ _
                have ch8 : Chg (fun y => y = w1.heap.size) w7 (w7.setCell ⟨w1.heap.size, 2, none⟩ (.slice A7 (g.2.2.length + 1) c7)) := Chg.set ⟨w1.heap.size, 2, none⟩ (.slice A7 (g.2.2.length + 1) c7)
                have bxF : Box (w7.setCell ⟨w1.heap.size, 2, none⟩ (.slice A7 (g.2.2.length + 1) c7)) w1.heap.size 32 #[.slice B7 (g.1.length + 1) d7, .slice A9 (g.2.1.length + 1) c9, .slice A7 (g.2.2.length + 1) c7] := bx7.set_ 2 (.slice A7 (g.2.2.length + 1) c7)
                have bzF : Box (w7.setCell ⟨w1.heap.size, 2, none⟩ (.slice A7 (g.2.2.length + 1) c7)) w.heap.size 32 #[.slice none 0 0, .slice none 0 0, .slice none 0 0] := bz7.far (by show w.heap.size ≠ w1.heap.size; omega) _
                have hoF := hop7.chg ch8 (fun y hy => by have h3 : y = w1.heap.size := hy; omega)
                have hdF := hd7.chg ch8 (fun y hy => by have h3 : y = w1.heap.size := hy; omega)
                have hccF := hcc7.push ch8 (fun y hy => .inr (by have h3 : y = w1.heap.size := hy; omega))
                go_wp2
                exact ⟨⟨k + 1, _, _, _, (g.1 ++ [x0], g.2.1 ++ [xs], g.2.2 ++ [x]), by omega, by go_num, parUp_succ HZ.out HX0.out HS.out.2 HS.out.1 hx6, bzF, bxF, hoF, hdF, hccF⟩, by simp [intOf]; omega⟩
              · go_simp
                refine hK.out _ _ (trivial) (fun hHeld => ?_)
                clear hK K
                try simp only [Act.put, List.setIfInBounds_toArray, List.set_cons_zero, List.set_cons_succ]
                refine callH1 (by kernel_rfl) (fun K hK => ?_)
                go_simp
                refine hK.out _ _ (trivial) (fun hHeld => ?_)
                clear hK K
                try simp only [Act.put, List.setIfInBounds_toArray, List.set_cons_zero, List.set_cons_succ]
                refine callH5 (by kernel_rfl) (fun K hK => ?_)
                have hbA : Below w6.heap.size w6 (w6.alloc (.cells #[.int .i64 x] 2)) := below_alloc (Nat.le_refl _) (Below.refl _ _)
                have hq1 : RI (w6.alloc (.cells #[.int .i64 x] 2)) (some ⟨w6.heap.size, 0, none⟩) 1 1 [x] := RI.one1 ((Box.new w6 2 #[.int .i64 x]).cell 0)
                have hopA := hop6.below hbA
                have hoA : OI 2 (w6.alloc (.cells #[.int .i64 x] 2)) (w1.heap.size + 1) (.slice A2 g.2.2.length c2) g.2.2 := hopA.row2
                have hlA : w1.heap.size + 1 ≤ (w6.alloc (.cells #[.int .i64 x] 2)).heap.size := Nat.le_trans hl6 hbA.size
                refine step_of_list (by rfl) (wp_appI (.tmp 52) (.tmp 55) (by rfl) (w6.alloc (.cells #[.int .i64 x] 2)) (w1.heap.size + 1) (.slice A2 g.2.2.length c2) g.2.2 (by rfl) hoA (some ⟨w6.heap.size, 0, none⟩) 1 1 [x] (by rfl) hq1 hkz2 (by omega) hlA ?_)
                intro v7 w7 ho7 hb7 hc7 hat7
                obtain ⟨A7, c7, h1e⟩ := ho7.form
                have h1f : v7 = .slice A7 (g.2.2.length + 1) c7 := by rw [h1e]; simp
                clear h1e
                subst h1f
                have hown : ∀ y, (Value.slice A2 g.2.2.length c2).ownBlock = some y → w1.heap.size + 1 ≤ y := fun y hy => (hoA.lt y hy).1
                have hop7 := hopA.set2 hc7 ho7 hat7
                have bx7 : Box w7 w1.heap.size 32 #[.slice B7 (g.1.length + 1) d7, .slice A9 (g.2.1.length + 1) c9, .slice A2 g.2.2.length c2] := (hc7.block _ (bx6.alloc _).lt (fun e => by have := hown _ e; omega)).trans (bx6.alloc _)
                have bz7 : Box w7 w.heap.size 32 #[.slice none 0 0, .slice none 0 0, .slice none 0 0] := (hc7.block _ (bz6.alloc _).lt (fun e => by have := hown _ e; omega)).trans (bz6.alloc _)
                have hd7 := (hd6.on hbA).chg hc7 (fun y hy => by have := hown y hy; omega)
                have hcc7 := (hcc6.then_below hbA (by omega)).push hc7 (fun y hy => .inr (by have := hown y hy; omega))
                have g7 := bx7.c2
                have f7 := bx7.hot 2
                have hl7 := Nat.le_trans hlA hc7.size
                clear hop6 hopA hoA hq1 bx6 bz6 hd6 hcc6 hc6 hbA hat7
                refine hK.out _ _ (trivial) (fun hHeld => ?_)
                clear hK K
                try simp only [Act.put, List.setIfInBounds_toArray, List.set_cons_zero, List.set_cons_succ]
                refine takeH6 (v := ?_) (by kernel_rfl) (by kernel_rfl) (by kernel_rfl) (fun _ _ _ h => h) hHeld (by rfl) ?_ ?_
                rotate_left; · (intro w hSw; (try dsimp only at hSw); go_simp; try with_reducible rfl)
                try simp only [Act.put, List.setIfInBounds_toArray, List.set_cons_zero, List.set_cons_succ]
                refine callH7 (by kernel_rfl) (fun K hK => ?_)
                go_simp
                refine hK.out _ _ (trivial) (fun hHeld => ?_)
                clear hK K
                try simp only [Act.put, List.setIfInBounds_toArray, List.set_cons_zero, List.set_cons_succ]
                refine wpAnyH_done (by kernel_rfl) ?_ _
                have ch8 : Chg (fun y => y = w1.heap.size) w7 (w7.setCell ⟨w1.heap.size, 2, none⟩ (.slice A7 (g.2.2.length + 1) c7)) := Chg.set ⟨w1.heap.size, 2, none⟩ (.slice A7 (g.2.2.length + 1) c7)
                have bxF : Box (w7.setCell ⟨w1.heap.size, 2, none⟩ (.slice A7 (g.2.2.length + 1) c7)) w1.heap.size 32 #[.slice B7 (g.1.length + 1) d7, .slice A9 (g.2.1.length + 1) c9, .slice A7 (g.2.2.length + 1) c7] := bx7.set_ 2 (.slice A7 (g.2.2.length + 1) c7)
                have bzF : Box (w7.setCell ⟨w1.heap.size, 2, none⟩ (.slice A7 (g.2.2.length + 1) c7)) w.heap.size 32 #[.slice none 0 0, .slice none 0 0, .slice none 0 0] := bz7.far (by show w.heap.size ≠ w1.heap.size; omega) _
                have hoF := hop7.chg ch8 (fun y hy => by have h3 : y = w1.heap.size := hy; omega)
                have hdF := hd7.chg ch8 (fun y hy => by have h3 : y = w1.heap.size := hy; omega)
                have hccF := hcc7.push ch8 (fun y hy => .inr (by have h3 : y = w1.heap.size := hy; omega))
                go_wp2
                exact ⟨⟨k + 1, _, _, _, (g.1 ++ [x0], g.2.1 ++ [xs], g.2.2 ++ [x]), by omega, by go_num, parUp_succ HZ.out HX0.out HS.out.2 HS.out.1 hx6, bzF, bxF, hoF, hdF, hccF⟩, by simp [intOf]; omega⟩
          · go_simp
            go_at_call 17
            refine (below w0 _ b 2 hdr2 (by omega)).mono ?_; rintro e w6 ⟨x, rfl, hx6, hd6, hc6⟩
            have bx6 : Box w6 w1.heap.size 32 #[.slice A0 g.1.length c0, .slice A1 g.2.1.length c1, .slice A2 g.2.2.length c2] := (hc6.block _ bx2.lt (fun e => by have h3 : w1.heap.size = b := e; omega)).trans bx2
            have bz6 : Box w6 w.heap.size 32 #[.slice none 0 0, .slice none 0 0, .slice none 0 0] := (hc6.block _ bz2.lt (fun e => by have h3 : w.heap.size = b := e; omega)).trans bz2
            have g6 := bx6.c0
            have hop6 := hop.chg hc6 (fun y hy => by have h3 : y = b := hy; omega)
            have hcc6 := chg_then hcc hc6
            have hl6 : w1.heap.size + 1 ≤ w6.heap.size := Nat.le_trans hlw hc6.size
            have g6A : ∀ o, (w6.alloc o).cell? ⟨w1.heap.size, 0, none⟩ = some (.slice A0 g.1.length c0) := fun o => keepA g6
            go_wp2_with fail
            refine hK.out _ _ (trivial) (fun hHeld => ?_)
            clear hK K
            try simp only [Act.put, List.setIfInBounds_toArray, List.set_cons_zero, List.set_cons_succ]
            refine twoH_2_5 (by kernel_rfl) (fun K hK => ?_) (fun K hK => ?_)
            · go_simp
              refine hK.out _ _ (trivial) (fun hHeld => ?_)
              clear hK K
              try simp only [Act.put, List.setIfInBounds_toArray, List.set_cons_zero, List.set_cons_succ]
              refine callH5 (by kernel_rfl) (fun K hK => ?_)
              go_simp
              refine hK.out _ _ (trivial) (fun hHeld => ?_)
              clear hK K
              try simp only [Act.put, List.setIfInBounds_toArray, List.set_cons_zero, List.set_cons_succ]
              refine callH6 (by kernel_rfl) (fun K hK => ?_)
              have hbA : Below w6.heap.size w6 (w6.alloc (.cells #[.int .i64 x] 2)) := below_alloc (Nat.le_refl _) (Below.refl _ _)
              have hq1 : RI (w6.alloc (.cells #[.int .i64 x] 2)) (some ⟨w6.heap.size, 0, none⟩) 1 1 [x] := RI.one1 ((Box.new w6 2 #[.int .i64 x]).cell 0)
              have hopA := hop6.below hbA
              have hoA : OI 2 (w6.alloc (.cells #[.int .i64 x] 2)) (w1.heap.size + 1) (.slice A0 g.1.length c0) g.1 := by obtain ⟨cs, h1, _⟩ := hopA; exact h1.1
              have hlA : w1.heap.size + 1 ≤ (w6.alloc (.cells #[.int .i64 x] 2)).heap.size := Nat.le_trans hl6 hbA.size
              refine step_of_list (by rfl) (wp_appI (.tmp 36) (.tmp 39) (by rfl) (w6.alloc (.cells #[.int .i64 x] 2)) (w1.heap.size + 1) (.slice A0 g.1.length c0) g.1 (by rfl) hoA (some ⟨w6.heap.size, 0, none⟩) 1 1 [x] (by rfl) hq1 hkz0 (by omega) hlA ?_)
              intro v7 w7 ho7 hb7 hc7 hat7
              obtain ⟨A7, c7, h1e⟩ := ho7.form
              have h1f : v7 = .slice A7 (g.1.length + 1) c7 := by rw [h1e]; simp
              clear h1e
              subst h1f
              have hown : ∀ y, (Value.slice A0 g.1.length c0).ownBlock = some y → w1.heap.size + 1 ≤ y := fun y hy => (hoA.lt y hy).1
              have hop7 := hopA.put0 hc7 ho7 hat7
              have bx7 : Box w7 w1.heap.size 32 #[.slice A0 g.1.length c0, .slice A1 g.2.1.length c1, .slice A2 g.2.2.length c2] := (hc7.block _ (bx6.alloc _).lt (fun e => by have := hown _ e; omega)).trans (bx6.alloc _)
              have bz7 : Box w7 w.heap.size 32 #[.slice none 0 0, .slice none 0 0, .slice none 0 0] := (hc7.block _ (bz6.alloc _).lt (fun e => by have := hown _ e; omega)).trans (bz6.alloc _)
              have hd7 := (hd6.on hbA).chg hc7 (fun y hy => by have := hown y hy; omega)
              have hcc7 := (hcc6.then_below hbA (by omega)).push hc7 (fun y hy => .inr (by have := hown y hy; omega))
              have g7 := bx7.c0
              have f7 := bx7.hot 0
              have hl7 := Nat.le_trans hlA hc7.size
              clear hop6 hopA hoA hq1 bx6 bz6 hd6 hcc6 hc6 hbA hat7
              refine hK.out _ _ (trivial) (fun hHeld => ?_)
              clear hK K
              try simp only [Act.put, List.setIfInBounds_toArray, List.set_cons_zero, List.set_cons_succ]
              refine takeH7 (v := ?_) (by kernel_rfl) (by kernel_rfl) (by kernel_rfl) (fun _ _ _ h => h) hHeld (by rfl) ?_ ?_
              rotate_left; · (intro w hSw; (try dsimp only at hSw); go_simp; try with_reducible rfl)
              try simp only [Act.put, List.setIfInBounds_toArray, List.set_cons_zero, List.set_cons_succ]
              refine takeH8 (v := ?_) (by kernel_rfl) (by kernel_rfl) (by kernel_rfl) (fun _ _ _ h => h) hHeld (by rfl) ?_ ?_
              rotate_left; · (intro w hSw; (try dsimp only at hSw); go_simp; try with_reducible rfl)
              try simp only [Act.put, List.setIfInBounds_toArray, List.set_cons_zero, List.set_cons_succ]
              refine callH9 (by kernel_rfl) (fun K hK => ?_)
              go_simp
              refine hK.out _ _ (trivial) (fun hHeld => ?_)
              clear hK K
              try simp only [Act.put, List.setIfInBounds_toArray, List.set_cons_zero, List.set_cons_succ]
              refine wpAnyH_done (by kernel_rfl) ?_ _
              have ch8 : Chg (fun y => y = w1.heap.size) w7 (w7.setCell ⟨w1.heap.size, 0, none⟩ (.slice A7 (g.1.length + 1) c7)) := Chg.set ⟨w1.heap.size, 0, none⟩ (.slice A7 (g.1.length + 1) c7)
              have bx8 : Box (w7.setCell ⟨w1.heap.size, 0, none⟩ (.slice A7 (g.1.length + 1) c7)) w1.heap.size 32 #[.slice A7 (g.1.length + 1) c7, .slice A1 g.2.1.length c1, .slice A2 g.2.2.length c2] := bx7.set_ 0 (.slice A7 (g.1.length + 1) c7)
              have bz8 : Box (w7.setCell ⟨w1.heap.size, 0, none⟩ (.slice A7 (g.1.length + 1) c7)) w.heap.size 32 #[.slice none 0 0, .slice none 0 0, .slice none 0 0] := bz7.far (by show w.heap.size ≠ w1.heap.size; omega) _
              have hop8 := hop7.chg ch8 (fun y hy => by have h3 : y = w1.heap.size := hy; omega)
              have hd8 := hd7.chg ch8 (fun y hy => by have h3 : y = w1.heap.size := hy; omega)
              have hcc8 := hcc7.push ch8 (fun y hy => .inr (by have h3 : y = w1.heap.size := hy; omega))
              have g18 := bx8.c1
              have hl8 := Nat.le_trans hl7 ch8.size
              have HX0 := Lib.hid hx6
              clear hop7 hd7 hcc7 ch8 bx7 bz7 g7 f7 hb7 hc7 ho7
              generalize (w7.setCell ⟨w1.heap.size, 0, none⟩ (.slice A7 (g.1.length + 1) c7)) = w8 at *
              obtain ⟨B7, hB7⟩ : ∃ z, z = A7 := ⟨_, rfl⟩
              obtain ⟨d7, hd7⟩ : ∃ z, z = c7 := ⟨_, rfl⟩
              obtain ⟨x0, hx0⟩ : ∃ z, z = x := ⟨_, rfl⟩
              subst hB7; subst hd7; subst hx0
              go_wp2_with (at_builtin; go_loud (refine wpList_pushX rfl (.tmp 45) (.tmp 47) (by rfl) w8 (w1.heap.size + 1) (.slice B7 (g.1.length + 1) d7) (.slice A1 g.2.1.length c1) (.slice A2 g.2.2.length c2) (.slice Av xs.length cv) (g.1 ++ [x0], g.2.1, g.2.2) xs (by rfl) (by rfl) hl8 hop8 hkz1 ?_; intro t1 w9 ho9 hb9 hc9 hat9; obtain ⟨A8, c8, A9, c9, A10, c10, h0e9, h1e9, h2e9⟩ := ho9.form; have h1e : t1 = .slice A9 (g.2.1.length + 1) c9 := (by rw [h1e9]; simp); clear h0e9 h1e9 h2e9 hat9; subst h1e; have hown9 : ∀ y, (Value.slice A1 g.2.1.length c1).ownBlock = some y → w1.heap.size + 1 ≤ y := fun y hy => hop8.old1 y hy; have bx9 : Box w9 w1.heap.size 32 #[.slice B7 (g.1.length + 1) d7, .slice A1 g.2.1.length c1, .slice A2 g.2.2.length c2] := (hc9.block _ bx8.lt (fun e => by have := hown9 _ e; omega)).trans bx8; have g9 := bx9.c1; have f9 := bx9.hot 1))
              have hl9 := hc9.size
              have ch9 : Chg (fun y => y = w1.heap.size) w9 (w9.setCell ⟨w1.heap.size, 1, none⟩ (.slice A9 (g.2.1.length + 1) c9)) := Chg.set ⟨w1.heap.size, 1, none⟩ (.slice A9 (g.2.1.length + 1) c9)
              have bz9 : Box (w9.setCell ⟨w1.heap.size, 1, none⟩ (.slice A9 (g.2.1.length + 1) c9)) w.heap.size 32 #[.slice none 0 0, .slice none 0 0, .slice none 0 0] := Box.far ((hc9.block _ bz8.lt (fun e => by have := hown9 _ e; omega)).trans bz8) (by show w.heap.size ≠ w1.heap.size; omega) _
              have bx10 : Box (w9.setCell ⟨w1.heap.size, 1, none⟩ (.slice A9 (g.2.1.length + 1) c9)) w1.heap.size 32 #[.slice B7 (g.1.length + 1) d7, .slice A9 (g.2.1.length + 1) c9, .slice A2 g.2.2.length c2] := bx9.set_ 1 (.slice A9 (g.2.1.length + 1) c9)
              have ho10 := ho9.chg ch9 (fun y hy => by have h3 : y = w1.heap.size := hy; omega)
              have hd10 := (hd8.chg hc9 (fun y hy => by have := hown9 y hy; omega)).chg ch9 (fun y hy => by have h3 : y = w1.heap.size := hy; omega)
              have hcc10 := (hcc8.push hc9 (fun y hy => .inr (by have := hown9 y hy; omega))).push ch9 (fun y hy => .inr (by have h3 : y = w1.heap.size := hy; omega))
              have hl10 := ch9.size
              clear ho9 hb9 hc9 bx9 bx8 bz8 hop8 hd8 hcc8 ch9 g9 f9 g18
              generalize (w9.setCell ⟨w1.heap.size, 1, none⟩ (.slice A9 (g.2.1.length + 1) c9)) = w10 at *
              go_wp2_with fail
              refine wp_region_held_drew (S := fun _ => True) (by kernel_rfl) trivial (fun hHeld => ?_)
              have hoD : OPar w10.drew (w1.heap.size + 1) (.slice B7 (g.1.length + 1) d7) (.slice A9 (g.2.1.length + 1) c9) (.slice A2 g.2.2.length c2) (g.1 ++ [x0], g.2.1 ++ [xs], g.2.2) := ho10.below (Below.drew (Below.refl _ _))
              have bzD : Box w10.drew w.heap.size 32 #[.slice none 0 0, .slice none 0 0, .slice none 0 0] := bz9
              have bxD : Box w10.drew w1.heap.size 32 #[.slice B7 (g.1.length + 1) d7, .slice A9 (g.2.1.length + 1) c9, .slice A2 g.2.2.length c2] := bx10
              have hdD := hd10.on (Below.drew (Below.refl w10.heap.size w10))
              have hccD : Chg (fun y => y = b) w w10.drew := hcc10.drewN 1
              have hlw : w1.heap.size + 1 ≤ w10.drew.heap.size := Nat.le_trans (Nat.le_trans hl8 hl9) hl10
              clear ho10 bz9 bx10 hd10 hcc10
              generalize w10.drew = wE at *
              have g2D := bxD.c2
              clear hx6
              refine takeH0 (v := ?_) (by kernel_rfl) (by kernel_rfl) (by kernel_rfl) (fun _ _ _ h => h) hHeld (by rfl) ?_ ?_
              rotate_left; · (intro w hSw; (try dsimp only at hSw); go_simp; try with_reducible rfl)
              try simp only [Act.put, List.setIfInBounds_toArray, List.set_cons_zero, List.set_cons_succ]
              refine takeH2 (v := ?_) (by kernel_rfl) (by kernel_rfl) (by kernel_rfl) (fun _ _ _ h => h) hHeld (by rfl) ?_ ?_
              rotate_left; · (intro w hSw; (try dsimp only at hSw); go_simp; try with_reducible rfl)
              try simp only [Act.put, List.setIfInBounds_toArray, List.set_cons_zero, List.set_cons_succ]
              refine twoH_1_3 (by kernel_rfl) (fun K hK => ?_) (fun K hK => ?_)
              · go_simp
                refine hK.out _ _ (trivial) (fun hHeld => ?_)
                clear hK K
                try simp only [Act.put, List.setIfInBounds_toArray, List.set_cons_zero, List.set_cons_succ]
                refine callH3 (by kernel_rfl) (fun K hK => ?_)
                go_simp
                go_at_call 17
                refine (below w0 _ b 6 hdD (by omega)).mono ?_; rintro e w6 ⟨x, rfl, hx6, hd6, hc6⟩
                have bx6 : Box w6 w1.heap.size 32 #[.slice B7 (g.1.length + 1) d7, .slice A9 (g.2.1.length + 1) c9, .slice A2 g.2.2.length c2] := (hc6.block _ bxD.lt (fun e => by have h3 : w1.heap.size = b := e; omega)).trans bxD
                have bz6 : Box w6 w.heap.size 32 #[.slice none 0 0, .slice none 0 0, .slice none 0 0] := (hc6.block _ bzD.lt (fun e => by have h3 : w.heap.size = b := e; omega)).trans bzD
                have g6 := bx6.c2
                have hop6 := hoD.chg hc6 (fun y hy => by have h3 : y = b := hy; omega)
                have hcc6 := chg_then hccD hc6
                have hl6 : w1.heap.size + 1 ≤ w6.heap.size := Nat.le_trans hlw hc6.size
                go_wp2_with fail
                refine hK.out _ _ (trivial) (fun hHeld => ?_)
                clear hK K
                try simp only [Act.put, List.setIfInBounds_toArray, List.set_cons_zero, List.set_cons_succ]
                refine callH4 (by kernel_rfl) (fun K hK => ?_)
                go_simp
                refine hK.out _ _ (trivial) (fun hHeld => ?_)
                clear hK K
                try simp only [Act.put, List.setIfInBounds_toArray, List.set_cons_zero, List.set_cons_succ]
                refine callH5 (by kernel_rfl) (fun K hK => ?_)
                have hbA : Below w6.heap.size w6 (w6.alloc (.cells #[.int .i64 x] 2)) := below_alloc (Nat.le_refl _) (Below.refl _ _)
                have hq1 : RI (w6.alloc (.cells #[.int .i64 x] 2)) (some ⟨w6.heap.size, 0, none⟩) 1 1 [x] := RI.one1 ((Box.new w6 2 #[.int .i64 x]).cell 0)
                have hopA := hop6.below hbA
                have hoA : OI 2 (w6.alloc (.cells #[.int .i64 x] 2)) (w1.heap.size + 1) (.slice A2 g.2.2.length c2) g.2.2 := hopA.row2
                have hlA : w1.heap.size + 1 ≤ (w6.alloc (.cells #[.int .i64 x] 2)).heap.size := Nat.le_trans hl6 hbA.size
                refine step_of_list (by rfl) (wp_appI (.tmp 52) (.tmp 55) (by rfl) (w6.alloc (.cells #[.int .i64 x] 2)) (w1.heap.size + 1) (.slice A2 g.2.2.length c2) g.2.2 (by rfl) hoA (some ⟨w6.heap.size, 0, none⟩) 1 1 [x] (by rfl) hq1 hkz2 (by omega) hlA ?_)
                intro v7 w7 ho7 hb7 hc7 hat7
                obtain ⟨A7, c7, h1e⟩ := ho7.form
                have h1f : v7 = .slice A7 (g.2.2.length + 1) c7 := by rw [h1e]; simp
                clear h1e
                subst h1f
                have hown : ∀ y, (Value.slice A2 g.2.2.length c2).ownBlock = some y → w1.heap.size + 1 ≤ y := fun y hy => (hoA.lt y hy).1
                have hop7 := hopA.set2 hc7 ho7 hat7
                have bx7 : Box w7 w1.heap.size 32 #[.slice B7 (g.1.length + 1) d7, .slice A9 (g.2.1.length + 1) c9, .slice A2 g.2.2.length c2] := (hc7.block _ (bx6.alloc _).lt (fun e => by have := hown _ e; omega)).trans (bx6.alloc _)
                have bz7 : Box w7 w.heap.size 32 #[.slice none 0 0, .slice none 0 0, .slice none 0 0] := (hc7.block _ (bz6.alloc _).lt (fun e => by have := hown _ e; omega)).trans (bz6.alloc _)
                have hd7 := (hd6.on hbA).chg hc7 (fun y hy => by have := hown y hy; omega)
                have hcc7 := (hcc6.then_below hbA (by omega)).push hc7 (fun y hy => .inr (by have := hown y hy; omega))
                have g7 := bx7.c2
                have f7 := bx7.hot 2
                have hl7 := Nat.le_trans hlA hc7.size
                clear hop6 hopA hoA hq1 bx6 bz6 hd6 hcc6 hc6 hbA hat7
                refine hK.out _ _ (trivial) (fun hHeld => ?_)
                clear hK K
                try simp only [Act.put, List.setIfInBounds_toArray, List.set_cons_zero, List.set_cons_succ]
                refine takeH6 (v := ?_) (by kernel_rfl) (by kernel_rfl) (by kernel_rfl) (fun _ _ _ h => h) hHeld (by rfl) ?_ ?_
                rotate_left; · (intro w hSw; (try dsimp only at hSw); go_simp; try with_reducible rfl)
                try simp only [Act.put, List.setIfInBounds_toArray, List.set_cons_zero, List.set_cons_succ]
                refine callH7 (by kernel_rfl) (fun K hK => ?_)
                go_simp
                refine hK.out _ _ (trivial) (fun hHeld => ?_)
                clear hK K
                try simp only [Act.put, List.setIfInBounds_toArray, List.set_cons_zero, List.set_cons_succ]
                refine wpAnyH_done (by kernel_rfl) ?_ _
                have ch8 : Chg (fun y => y = w1.heap.size) w7 (w7.setCell ⟨w1.heap.size, 2, none⟩ (.slice A7 (g.2.2.length + 1) c7)) := Chg.set ⟨w1.heap.size, 2, none⟩ (.slice A7 (g.2.2.length + 1) c7)
                have bxF : Box (w7.setCell ⟨w1.heap.size, 2, none⟩ (.slice A7 (g.2.2.length + 1) c7)) w1.heap.size 32 #[.slice B7 (g.1.length + 1) d7, .slice A9 (g.2.1.length + 1) c9, .slice A7 (g.2.2.length + 1) c7] := bx7.set_ 2 (.slice A7 (g.2.2.length + 1) c7)
                have bzF : Box (w7.setCell ⟨w1.heap.size, 2, none⟩ (.slice A7 (g.2.2.length + 1) c7)) w.heap.size 32 #[.slice none 0 0, .slice none 0 0, .slice none 0 0] := bz7.far (by show w.heap.size ≠ w1.heap.size; omega) _
                have hoF := hop7.chg ch8 (fun y hy => by have h3 : y = w1.heap.size := hy; omega)
                have hdF := hd7.chg ch8 (fun y hy => by have h3 : y = w1.heap.size := hy; omega)
                have hccF := hcc7.push ch8 (fun y hy => .inr (by have h3 : y = w1.heap.size := hy; omega))
                go_wp2
                exact ⟨⟨k + 1, _, _, _, (g.1 ++ [x0], g.2.1 ++ [xs], g.2.2 ++ [x]), by omega, by go_num, parUp_succ HZ.out HX0.out HS.out.2 HS.out.1 hx6, bzF, bxF, hoF, hdF, hccF⟩, by simp [intOf]; omega⟩
              · go_simp
                go_at_call 17
                refine (below w0 _ b 6 hdD (by omega)).mono ?_; rintro e w6 ⟨x, rfl, hx6, hd6, hc6⟩
                have bx6 : Box w6 w1.heap.size 32 #[.slice B7 (g.1.length + 1) d7, .slice A9 (g.2.1.length + 1) c9, .slice A2 g.2.2.length c2] := (hc6.block _ bxD.lt (fun e => by have h3 : w1.heap.size = b := e; omega)).trans bxD
                have bz6 : Box w6 w.heap.size 32 #[.slice none 0 0, .slice none 0 0, .slice none 0 0] := (hc6.block _ bzD.lt (fun e => by have h3 : w.heap.size = b := e; omega)).trans bzD
                have g6 := bx6.c2
                have hop6 := hoD.chg hc6 (fun y hy => by have h3 : y = b := hy; omega)
                have hcc6 := chg_then hccD hc6
                have hl6 : w1.heap.size + 1 ≤ w6.heap.size := Nat.le_trans hlw hc6.size
                have g6A : ∀ o, (w6.alloc o).cell? ⟨w1.heap.size, 2, none⟩ = some (.slice A2 g.2.2.length c2) := fun o => keepA g6
                go_wp2_with fail
                refine hK.out _ _ (trivial) (fun hHeld => ?_)
                clear hK K
                try simp only [Act.put, List.setIfInBounds_toArray, List.set_cons_zero, List.set_cons_succ]
                refine twoH_1_4 (by kernel_rfl) (fun K hK => ?_) (fun K hK => ?_)
                · go_simp
                  refine hK.out _ _ (trivial) (fun hHeld => ?_)
                  clear hK K
                  try simp only [Act.put, List.setIfInBounds_toArray, List.set_cons_zero, List.set_cons_succ]
                  refine callH4 (by kernel_rfl) (fun K hK => ?_)
                  go_simp
                  refine hK.out _ _ (trivial) (fun hHeld => ?_)
                  clear hK K
                  try simp only [Act.put, List.setIfInBounds_toArray, List.set_cons_zero, List.set_cons_succ]
                  refine callH5 (by kernel_rfl) (fun K hK => ?_)
                  have hbA : Below w6.heap.size w6 (w6.alloc (.cells #[.int .i64 x] 2)) := below_alloc (Nat.le_refl _) (Below.refl _ _)
                  have hq1 : RI (w6.alloc (.cells #[.int .i64 x] 2)) (some ⟨w6.heap.size, 0, none⟩) 1 1 [x] := RI.one1 ((Box.new w6 2 #[.int .i64 x]).cell 0)
                  have hopA := hop6.below hbA
                  have hoA : OI 2 (w6.alloc (.cells #[.int .i64 x] 2)) (w1.heap.size + 1) (.slice A2 g.2.2.length c2) g.2.2 := hopA.row2
                  have hlA : w1.heap.size + 1 ≤ (w6.alloc (.cells #[.int .i64 x] 2)).heap.size := Nat.le_trans hl6 hbA.size
                  refine step_of_list (by rfl) (wp_appI (.tmp 52) (.tmp 55) (by rfl) (w6.alloc (.cells #[.int .i64 x] 2)) (w1.heap.size + 1) (.slice A2 g.2.2.length c2) g.2.2 (by rfl) hoA (some ⟨w6.heap.size, 0, none⟩) 1 1 [x] (by rfl) hq1 hkz2 (by omega) hlA ?_)
                  intro v7 w7 ho7 hb7 hc7 hat7
                  obtain ⟨A7, c7, h1e⟩ := ho7.form
                  have h1f : v7 = .slice A7 (g.2.2.length + 1) c7 := by rw [h1e]; simp
                  clear h1e
                  subst h1f
                  have hown : ∀ y, (Value.slice A2 g.2.2.length c2).ownBlock = some y → w1.heap.size + 1 ≤ y := fun y hy => (hoA.lt y hy).1
                  have hop7 := hopA.set2 hc7 ho7 hat7
                  have bx7 : Box w7 w1.heap.size 32 #[.slice B7 (g.1.length + 1) d7, .slice A9 (g.2.1.length + 1) c9, .slice A2 g.2.2.length c2] := (hc7.block _ (bx6.alloc _).lt (fun e => by have := hown _ e; omega)).trans (bx6.alloc _)
                  have bz7 : Box w7 w.heap.size 32 #[.slice none 0 0, .slice none 0 0, .slice none 0 0] := (hc7.block _ (bz6.alloc _).lt (fun e => by have := hown _ e; omega)).trans (bz6.alloc _)
                  have hd7 := (hd6.on hbA).chg hc7 (fun y hy => by have := hown y hy; omega)
                  have hcc7 := (hcc6.then_below hbA (by omega)).push hc7 (fun y hy => .inr (by have := hown y hy; omega))
                  have g7 := bx7.c2
                  have f7 := bx7.hot 2
                  have hl7 := Nat.le_trans hlA hc7.size
                  clear hop6 hopA hoA hq1 bx6 bz6 hd6 hcc6 hc6 hbA hat7
                  refine hK.out _ _ (trivial) (fun hHeld => ?_)
                  clear hK K
                  try simp only [Act.put, List.setIfInBounds_toArray, List.set_cons_zero, List.set_cons_succ]
                  refine takeH6 (v := ?_) (by kernel_rfl) (by kernel_rfl) (by kernel_rfl) (fun _ _ _ h => h) hHeld (by rfl) ?_ ?_
                  rotate_left; · (intro w hSw; (try dsimp only at hSw); go_simp; try with_reducible rfl)
                  try simp only [Act.put, List.setIfInBounds_toArray, List.set_cons_zero, List.set_cons_succ]
                  refine callH7 (by kernel_rfl) (fun K hK => ?_)
                  go_simp
                  refine hK.out _ _ (trivial) (fun hHeld => ?_)
                  clear hK K
                  try simp only [Act.put, List.setIfInBounds_toArray, List.set_cons_zero, List.set_cons_succ]
                  refine wpAnyH_done (by kernel_rfl) ?_ _
                  have ch8 : Chg (fun y => y = w1.heap.size) w7 (w7.setCell ⟨w1.heap.size, 2, none⟩ (.slice A7 (g.2.2.length + 1) c7)) := Chg.set ⟨w1.heap.size, 2, none⟩ (.slice A7 (g.2.2.length + 1) c7)
                  have bxF : Box (w7.setCell ⟨w1.heap.size, 2, none⟩ (.slice A7 (g.2.2.length + 1) c7)) w1.heap.size 32 #[.slice B7 (g.1.length + 1) d7, .slice A9 (g.2.1.length + 1) c9, .slice A7 (g.2.2.length + 1) c7] := bx7.set_ 2 (.slice A7 (g.2.2.length + 1) c7)
                  have bzF : Box (w7.setCell ⟨w1.heap.size, 2, none⟩ (.slice A7 (g.2.2.length + 1) c7)) w.heap.size 32 #[.slice none 0 0, .slice none 0 0, .slice none 0 0] := bz7.far (by show w.heap.size ≠ w1.heap.size; omega) _
                  have hoF := hop7.chg ch8 (fun y hy => by have h3 : y = w1.heap.size := hy; omega)
                  have hdF := hd7.chg ch8 (fun y hy => by have h3 : y = w1.heap.size := hy; omega)
                  have hccF := hcc7.push ch8 (fun y hy => .inr (by have h3 : y = w1.heap.size := hy; omega))
                  go_wp2
                  exact ⟨⟨k + 1, _, _, _, (g.1 ++ [x0], g.2.1 ++ [xs], g.2.2 ++ [x]), by omega, by go_num, parUp_succ HZ.out HX0.out HS.out.2 HS.out.1 hx6, bzF, bxF, hoF, hdF, hccF⟩, by simp [intOf]; omega⟩
                · go_simp
                  refine hK.out _ _ (trivial) (fun hHeld => ?_)
                  clear hK K
                  try simp only [Act.put, List.setIfInBounds_toArray, List.set_cons_zero, List.set_cons_succ]
                  refine callH1 (by kernel_rfl) (fun K hK => ?_)
                  go_simp
                  refine hK.out _ _ (trivial) (fun hHeld => ?_)
                  clear hK K
                  try simp only [Act.put, List.setIfInBounds_toArray, List.set_cons_zero, List.set_cons_succ]
                  refine callH5 (by kernel_rfl) (fun K hK => ?_)
                  have hbA : Below w6.heap.size w6 (w6.alloc (.cells #[.int .i64 x] 2)) := below_alloc (Nat.le_refl _) (Below.refl _ _)
                  have hq1 : RI (w6.alloc (.cells #[.int .i64 x] 2)) (some ⟨w6.heap.size, 0, none⟩) 1 1 [x] := RI.one1 ((Box.new w6 2 #[.int .i64 x]).cell 0)
                  have hopA := hop6.below hbA
                  have hoA : OI 2 (w6.alloc (.cells #[.int .i64 x] 2)) (w1.heap.size + 1) (.slice A2 g.2.2.length c2) g.2.2 := hopA.row2
                  have hlA : w1.heap.size + 1 ≤ (w6.alloc (.cells #[.int .i64 x] 2)).heap.size := Nat.le_trans hl6 hbA.size
                  refine step_of_list (by rfl) (wp_appI (.tmp 52) (.tmp 55) (by rfl) (w6.alloc (.cells #[.int .i64 x] 2)) (w1.heap.size + 1) (.slice A2 g.2.2.length c2) g.2.2 (by rfl) hoA (some ⟨w6.heap.size, 0, none⟩) 1 1 [x] (by rfl) hq1 hkz2 (by omega) hlA ?_)
                  intro v7 w7 ho7 hb7 hc7 hat7
                  obtain ⟨A7, c7, h1e⟩ := ho7.form
                  have h1f : v7 = .slice A7 (g.2.2.length + 1) c7 := by rw [h1e]; simp
                  clear h1e
                  subst h1f
                  have hown : ∀ y, (Value.slice A2 g.2.2.length c2).ownBlock = some y → w1.heap.size + 1 ≤ y := fun y hy => (hoA.lt y hy).1
                  have hop7 := hopA.set2 hc7 ho7 hat7
                  have bx7 : Box w7 w1.heap.size 32 #[.slice B7 (g.1.length + 1) d7, .slice A9 (g.2.1.length + 1) c9, .slice A2 g.2.2.length c2] := (hc7.block _ (bx6.alloc _).lt (fun e => by have := hown _ e; omega)).trans (bx6.alloc _)
                  have bz7 : Box w7 w.heap.size 32 #[.slice none 0 0, .slice none 0 0, .slice none 0 0] := (hc7.block _ (bz6.alloc _).lt (fun e => by have := hown _ e; omega)).trans (bz6.alloc _)
                  have hd7 := (hd6.on hbA).chg hc7 (fun y hy => by have := hown y hy; omega)
                  have hcc7 := (hcc6.then_below hbA (by omega)).push hc7 (fun y hy => .inr (by have := hown y hy; omega))
                  have g7 := bx7.c2
                  have f7 := bx7.hot 2
                  have hl7 := Nat.le_trans hlA hc7.size
                  clear hop6 hopA hoA hq1 bx6 bz6 hd6 hcc6 hc6 hbA hat7
                  refine hK.out _ _ (trivial) (fun hHeld => ?_)
                  clear hK K
                  try simp only [Act.put, List.setIfInBounds_toArray, List.set_cons_zero, List.set_cons_succ]
                  refine takeH6 (v := ?_) (by kernel_rfl) (by kernel_rfl) (by kernel_rfl) (fun _ _ _ h => h) hHeld (by rfl) ?_ ?_
                  rotate_left; · (intro w hSw; (try dsimp only at hSw); go_simp; try with_reducible rfl)
                  try simp only [Act.put, List.setIfInBounds_toArray, List.set_cons_zero, List.set_cons_succ]
                  refine callH7 (by kernel_rfl) (fun K hK => ?_)
                  go_simp
                  refine hK.out _ _ (trivial) (fun hHeld => ?_)
                  clear hK K
                  try simp only [Act.put, List.setIfInBounds_toArray, List.set_cons_zero, List.set_cons_succ]
                  refine wpAnyH_done (by kernel_rfl) ?_ _
                  have ch8 : Chg (fun y => y = w1.heap.size) w7 (w7.setCell ⟨w1.heap.size, 2, none⟩ (.slice A7 (g.2.2.length + 1) c7)) := Chg.set ⟨w1.heap.size, 2, none⟩ (.slice A7 (g.2.2.length + 1) c7)
                  have bxF : Box (w7.setCell ⟨w1.heap.size, 2, none⟩ (.slice A7 (g.2.2.length + 1) c7)) w1.heap.size 32 #[.slice B7 (g.1.length + 1) d7, .slice A9 (g.2.1.length + 1) c9, .slice A7 (g.2.2.length + 1) c7] := bx7.set_ 2 (.slice A7 (g.2.2.length + 1) c7)
                  have bzF : Box (w7.setCell ⟨w1.heap.size, 2, none⟩ (.slice A7 (g.2.2.length + 1) c7)) w.heap.size 32 #[.slice none 0 0, .slice none 0 0, .slice none 0 0] := bz7.far (by show w.heap.size ≠ w1.heap.size; omega) _
                  have hoF := hop7.chg ch8 (fun y hy => by have h3 : y = w1.heap.size := hy; omega)
                  have hdF := hd7.chg ch8 (fun y hy => by have h3 : y = w1.heap.size := hy; omega)
                  have hccF := hcc7.push ch8 (fun y hy => .inr (by have h3 : y = w1.heap.size := hy; omega))
                  go_wp2
                  exact ⟨⟨k + 1, _, _, _, (g.1 ++ [x0], g.2.1 ++ [xs], g.2.2 ++ [x]), by omega, by go_num, parUp_succ HZ.out HX0.out HS.out.2 HS.out.1 hx6, bzF, bxF, hoF, hdF, hccF⟩, by simp [intOf]; omega⟩
            · go_simp
              refine hK.out _ _ (trivial) (fun hHeld => ?_)
              clear hK K
              try simp only [Act.put, List.setIfInBounds_toArray, List.set_cons_zero, List.set_cons_succ]
              refine callH2 (by kernel_rfl) (fun K hK => ?_)
              go_simp
              refine hK.out _ _ (trivial) (fun hHeld => ?_)
              clear hK K
              try simp only [Act.put, List.setIfInBounds_toArray, List.set_cons_zero, List.set_cons_succ]
              refine callH6 (by kernel_rfl) (fun K hK => ?_)
              have hbA : Below w6.heap.size w6 (w6.alloc (.cells #[.int .i64 x] 2)) := below_alloc (Nat.le_refl _) (Below.refl _ _)
              have hq1 : RI (w6.alloc (.cells #[.int .i64 x] 2)) (some ⟨w6.heap.size, 0, none⟩) 1 1 [x] := RI.one1 ((Box.new w6 2 #[.int .i64 x]).cell 0)
              have hopA := hop6.below hbA
              have hoA : OI 2 (w6.alloc (.cells #[.int .i64 x] 2)) (w1.heap.size + 1) (.slice A0 g.1.length c0) g.1 := by obtain ⟨cs, h1, _⟩ := hopA; exact h1.1
              have hlA : w1.heap.size + 1 ≤ (w6.alloc (.cells #[.int .i64 x] 2)).heap.size := Nat.le_trans hl6 hbA.size
              refine step_of_list (by rfl) (wp_appI (.tmp 36) (.tmp 39) (by rfl) (w6.alloc (.cells #[.int .i64 x] 2)) (w1.heap.size + 1) (.slice A0 g.1.length c0) g.1 (by rfl) hoA (some ⟨w6.heap.size, 0, none⟩) 1 1 [x] (by rfl) hq1 hkz0 (by omega) hlA ?_)
              intro v7 w7 ho7 hb7 hc7 hat7
              obtain ⟨A7, c7, h1e⟩ := ho7.form
              have h1f : v7 = .slice A7 (g.1.length + 1) c7 := by rw [h1e]; simp
              clear h1e
              subst h1f
              have hown : ∀ y, (Value.slice A0 g.1.length c0).ownBlock = some y → w1.heap.size + 1 ≤ y := fun y hy => (hoA.lt y hy).1
              have hop7 := hopA.put0 hc7 ho7 hat7
              have bx7 : Box w7 w1.heap.size 32 #[.slice A0 g.1.length c0, .slice A1 g.2.1.length c1, .slice A2 g.2.2.length c2] := (hc7.block _ (bx6.alloc _).lt (fun e => by have := hown _ e; omega)).trans (bx6.alloc _)
              have bz7 : Box w7 w.heap.size 32 #[.slice none 0 0, .slice none 0 0, .slice none 0 0] := (hc7.block _ (bz6.alloc _).lt (fun e => by have := hown _ e; omega)).trans (bz6.alloc _)
              have hd7 := (hd6.on hbA).chg hc7 (fun y hy => by have := hown y hy; omega)
              have hcc7 := (hcc6.then_below hbA (by omega)).push hc7 (fun y hy => .inr (by have := hown y hy; omega))
              have g7 := bx7.c0
              have f7 := bx7.hot 0
              have hl7 := Nat.le_trans hlA hc7.size
              clear hop6 hopA hoA hq1 bx6 bz6 hd6 hcc6 hc6 hbA hat7
              refine hK.out _ _ (trivial) (fun hHeld => ?_)
              clear hK K
              try simp only [Act.put, List.setIfInBounds_toArray, List.set_cons_zero, List.set_cons_succ]
              refine takeH7 (v := ?_) (by kernel_rfl) (by kernel_rfl) (by kernel_rfl) (fun _ _ _ h => h) hHeld (by rfl) ?_ ?_
              rotate_left; · (intro w hSw; (try dsimp only at hSw); go_simp; try with_reducible rfl)
              try simp only [Act.put, List.setIfInBounds_toArray, List.set_cons_zero, List.set_cons_succ]
              refine takeH8 (v := ?_) (by kernel_rfl) (by kernel_rfl) (by kernel_rfl) (fun _ _ _ h => h) hHeld (by rfl) ?_ ?_
              rotate_left; · (intro w hSw; (try dsimp only at hSw); go_simp; try with_reducible rfl)
              try simp only [Act.put, List.setIfInBounds_toArray, List.set_cons_zero, List.set_cons_succ]
              refine callH9 (by kernel_rfl) (fun K hK => ?_)
              go_simp
              refine hK.out _ _ (trivial) (fun hHeld => ?_)
              clear hK K
              try simp only [Act.put, List.setIfInBounds_toArray, List.set_cons_zero, List.set_cons_succ]
              refine wpAnyH_done (by kernel_rfl) ?_ _
              have ch8 : Chg (fun y => y = w1.heap.size) w7 (w7.setCell ⟨w1.heap.size, 0, none⟩ (.slice A7 (g.1.length + 1) c7)) := Chg.set ⟨w1.heap.size, 0, none⟩ (.slice A7 (g.1.length + 1) c7)
              have bx8 : Box (w7.setCell ⟨w1.heap.size, 0, none⟩ (.slice A7 (g.1.length + 1) c7)) w1.heap.size 32 #[.slice A7 (g.1.length + 1) c7, .slice A1 g.2.1.length c1, .slice A2 g.2.2.length c2] := bx7.set_ 0 (.slice A7 (g.1.length + 1) c7)
              have bz8 : Box (w7.setCell ⟨w1.heap.size, 0, none⟩ (.slice A7 (g.1.length + 1) c7)) w.heap.size 32 #[.slice none 0 0, .slice none 0 0, .slice none 0 0] := bz7.far (by show w.heap.size ≠ w1.heap.size; omega) _
              have hop8 := hop7.chg ch8 (fun y hy => by have h3 : y = w1.heap.size := hy; omega)
              have hd8 := hd7.chg ch8 (fun y hy => by have h3 : y = w1.heap.size := hy; omega)
              have hcc8 := hcc7.push ch8 (fun y hy => .inr (by have h3 : y = w1.heap.size := hy; omega))
              have g18 := bx8.c1
              have hl8 := Nat.le_trans hl7 ch8.size
              have HX0 := Lib.hid hx6
              clear hop7 hd7 hcc7 ch8 bx7 bz7 g7 f7 hb7 hc7 ho7
              generalize (w7.setCell ⟨w1.heap.size, 0, none⟩ (.slice A7 (g.1.length + 1) c7)) = w8 at *
              obtain ⟨B7, hB7⟩ : ∃ z, z = A7 := ⟨_, rfl⟩
              obtain ⟨d7, hd7⟩ : ∃ z, z = c7 := ⟨_, rfl⟩
              obtain ⟨x0, hx0⟩ : ∃ z, z = x := ⟨_, rfl⟩
              subst hB7; subst hd7; subst hx0
              go_wp2_with (at_builtin; go_loud (refine wpList_pushX rfl (.tmp 45) (.tmp 47) (by rfl) w8 (w1.heap.size + 1) (.slice B7 (g.1.length + 1) d7) (.slice A1 g.2.1.length c1) (.slice A2 g.2.2.length c2) (.slice Av xs.length cv) (g.1 ++ [x0], g.2.1, g.2.2) xs (by rfl) (by rfl) hl8 hop8 hkz1 ?_; intro t1 w9 ho9 hb9 hc9 hat9; obtain ⟨A8, c8, A9, c9, A10, c10, h0e9, h1e9, h2e9⟩ := ho9.form; have h1e : t1 = .slice A9 (g.2.1.length + 1) c9 := (by rw [h1e9]; simp); clear h0e9 h1e9 h2e9 hat9; subst h1e; have hown9 : ∀ y, (Value.slice A1 g.2.1.length c1).ownBlock = some y → w1.heap.size + 1 ≤ y := fun y hy => hop8.old1 y hy; have bx9 : Box w9 w1.heap.size 32 #[.slice B7 (g.1.length + 1) d7, .slice A1 g.2.1.length c1, .slice A2 g.2.2.length c2] := (hc9.block _ bx8.lt (fun e => by have := hown9 _ e; omega)).trans bx8; have g9 := bx9.c1; have f9 := bx9.hot 1))
              have hl9 := hc9.size
              have ch9 : Chg (fun y => y = w1.heap.size) w9 (w9.setCell ⟨w1.heap.size, 1, none⟩ (.slice A9 (g.2.1.length + 1) c9)) := Chg.set ⟨w1.heap.size, 1, none⟩ (.slice A9 (g.2.1.length + 1) c9)
              have bz9 : Box (w9.setCell ⟨w1.heap.size, 1, none⟩ (.slice A9 (g.2.1.length + 1) c9)) w.heap.size 32 #[.slice none 0 0, .slice none 0 0, .slice none 0 0] := Box.far ((hc9.block _ bz8.lt (fun e => by have := hown9 _ e; omega)).trans bz8) (by show w.heap.size ≠ w1.heap.size; omega) _
              have bx10 : Box (w9.setCell ⟨w1.heap.size, 1, none⟩ (.slice A9 (g.2.1.length + 1) c9)) w1.heap.size 32 #[.slice B7 (g.1.length + 1) d7, .slice A9 (g.2.1.length + 1) c9, .slice A2 g.2.2.length c2] := bx9.set_ 1 (.slice A9 (g.2.1.length + 1) c9)
              have ho10 := ho9.chg ch9 (fun y hy => by have h3 : y = w1.heap.size := hy; omega)
              have hd10 := (hd8.chg hc9 (fun y hy => by have := hown9 y hy; omega)).chg ch9 (fun y hy => by have h3 : y = w1.heap.size := hy; omega)
              have hcc10 := (hcc8.push hc9 (fun y hy => .inr (by have := hown9 y hy; omega))).push ch9 (fun y hy => .inr (by have h3 : y = w1.heap.size := hy; omega))
              have hl10 := ch9.size
              clear ho9 hb9 hc9 bx9 bx8 bz8 hop8 hd8 hcc8 ch9 g9 f9 g18
              generalize (w9.setCell ⟨w1.heap.size, 1, none⟩ (.slice A9 (g.2.1.length + 1) c9)) = w10 at *
              go_wp2_with fail
              refine wp_region_held_drew (S := fun _ => True) (by kernel_rfl) trivial (fun hHeld => ?_)
              have hoD : OPar w10.drew (w1.heap.size + 1) (.slice B7 (g.1.length + 1) d7) (.slice A9 (g.2.1.length + 1) c9) (.slice A2 g.2.2.length c2) (g.1 ++ [x0], g.2.1 ++ [xs], g.2.2) := ho10.below (Below.drew (Below.refl _ _))
              have bzD : Box w10.drew w.heap.size 32 #[.slice none 0 0, .slice none 0 0, .slice none 0 0] := bz9
              have bxD : Box w10.drew w1.heap.size 32 #[.slice B7 (g.1.length + 1) d7, .slice A9 (g.2.1.length + 1) c9, .slice A2 g.2.2.length c2] := bx10
              have hdD := hd10.on (Below.drew (Below.refl w10.heap.size w10))
              have hccD : Chg (fun y => y = b) w w10.drew := hcc10.drewN 1
              have hlw : w1.heap.size + 1 ≤ w10.drew.heap.size := Nat.le_trans (Nat.le_trans hl8 hl9) hl10
              clear ho10 bz9 bx10 hd10 hcc10
              generalize w10.drew = wE at *
              have g2D := bxD.c2
              clear hx6
              refine takeH0 (v := ?_) (by kernel_rfl) (by kernel_rfl) (by kernel_rfl) (fun _ _ _ h => h) hHeld (by rfl) ?_ ?_
              rotate_left; · (intro w hSw; (try dsimp only at hSw); go_simp; try with_reducible rfl)
              try simp only [Act.put, List.setIfInBounds_toArray, List.set_cons_zero, List.set_cons_succ]
              refine takeH2 (v := ?_) (by kernel_rfl) (by kernel_rfl) (by kernel_rfl) (fun _ _ _ h => h) hHeld (by rfl) ?_ ?_
              rotate_left; · (intro w hSw; (try dsimp only at hSw); go_simp; try with_reducible rfl)
              try simp only [Act.put, List.setIfInBounds_toArray, List.set_cons_zero, List.set_cons_succ]
              refine twoH_1_3 (by kernel_rfl) (fun K hK => ?_) (fun K hK => ?_)
              · go_simp
                refine hK.out _ _ (trivial) (fun hHeld => ?_)
                clear hK K
                try simp only [Act.put, List.setIfInBounds_toArray, List.set_cons_zero, List.set_cons_succ]
                refine callH3 (by kernel_rfl) (fun K hK => ?_)
                go_simp
                go_at_call 17
                refine (below w0 _ b 6 hdD (by omega)).mono ?_; rintro e w6 ⟨x, rfl, hx6, hd6, hc6⟩
                have bx6 : Box w6 w1.heap.size 32 #[.slice B7 (g.1.length + 1) d7, .slice A9 (g.2.1.length + 1) c9, .slice A2 g.2.2.length c2] := (hc6.block _ bxD.lt (fun e => by have h3 : w1.heap.size = b := e; omega)).trans bxD
                have bz6 : Box w6 w.heap.size 32 #[.slice none 0 0, .slice none 0 0, .slice none 0 0] := (hc6.block _ bzD.lt (fun e => by have h3 : w.heap.size = b := e; omega)).trans bzD
                have g6 := bx6.c2
                have hop6 := hoD.chg hc6 (fun y hy => by have h3 : y = b := hy; omega)
                have hcc6 := chg_then hccD hc6
                have hl6 : w1.heap.size + 1 ≤ w6.heap.size := Nat.le_trans hlw hc6.size
                go_wp2_with fail
                refine hK.out _ _ (trivial) (fun hHeld => ?_)
                clear hK K
                try simp only [Act.put, List.setIfInBounds_toArray, List.set_cons_zero, List.set_cons_succ]
                refine callH4 (by kernel_rfl) (fun K hK => ?_)
                go_simp
                refine hK.out _ _ (trivial) (fun hHeld => ?_)
                clear hK K
                try simp only [Act.put, List.setIfInBounds_toArray, List.set_cons_zero, List.set_cons_succ]
                refine callH5 (by kernel_rfl) (fun K hK => ?_)
                have hbA : Below w6.heap.size w6 (w6.alloc (.cells #[.int .i64 x] 2)) := below_alloc (Nat.le_refl _) (Below.refl _ _)
                have hq1 : RI (w6.alloc (.cells #[.int .i64 x] 2)) (some ⟨w6.heap.size, 0, none⟩) 1 1 [x] := RI.one1 ((Box.new w6 2 #[.int .i64 x]).cell 0)
                have hopA := hop6.below hbA
                have hoA : OI 2 (w6.alloc (.cells #[.int .i64 x] 2)) (w1.heap.size + 1) (.slice A2 g.2.2.length c2) g.2.2 := hopA.row2
                have hlA : w1.heap.size + 1 ≤ (w6.alloc (.cells #[.int .i64 x] 2)).heap.size := Nat.le_trans hl6 hbA.size
                refine step_of_list (by rfl) (wp_appI (.tmp 52) (.tmp 55) (by rfl) (w6.alloc (.cells #[.int .i64 x] 2)) (w1.heap.size + 1) (.slice A2 g.2.2.length c2) g.2.2 (by rfl) hoA (some ⟨w6.heap.size, 0, none⟩) 1 1 [x] (by rfl) hq1 hkz2 (by omega) hlA ?_)
                intro v7 w7 ho7 hb7 hc7 hat7
                obtain ⟨A7, c7, h1e⟩ := ho7.form
                have h1f : v7 = .slice A7 (g.2.2.length + 1) c7 := by rw [h1e]; simp
                clear h1e
                subst h1f
                have hown : ∀ y, (Value.slice A2 g.2.2.length c2).ownBlock = some y → w1.heap.size + 1 ≤ y := fun y hy => (hoA.lt y hy).1
                have hop7 := hopA.set2 hc7 ho7 hat7
                have bx7 : Box w7 w1.heap.size 32 #[.slice B7 (g.1.length + 1) d7, .slice A9 (g.2.1.length + 1) c9, .slice A2 g.2.2.length c2] := (hc7.block _ (bx6.alloc _).lt (fun e => by have := hown _ e; omega)).trans (bx6.alloc _)
                have bz7 : Box w7 w.heap.size 32 #[.slice none 0 0, .slice none 0 0, .slice none 0 0] := (hc7.block _ (bz6.alloc _).lt (fun e => by have := hown _ e; omega)).trans (bz6.alloc _)
                have hd7 := (hd6.on hbA).chg hc7 (fun y hy => by have := hown y hy; omega)
                have hcc7 := (hcc6.then_below hbA (by omega)).push hc7 (fun y hy => .inr (by have := hown y hy; omega))
                have g7 := bx7.c2
                have f7 := bx7.hot 2
                have hl7 := Nat.le_trans hlA hc7.size
                clear hop6 hopA hoA hq1 bx6 bz6 hd6 hcc6 hc6 hbA hat7
                refine hK.out _ _ (trivial) (fun hHeld => ?_)
                clear hK K
                try simp only [Act.put, List.setIfInBounds_toArray, List.set_cons_zero, List.set_cons_succ]
                refine takeH6 (v := ?_) (by kernel_rfl) (by kernel_rfl) (by kernel_rfl) (fun _ _ _ h => h) hHeld (by rfl) ?_ ?_
                rotate_left; · (intro w hSw; (try dsimp only at hSw); go_simp; try with_reducible rfl)
                try simp only [Act.put, List.setIfInBounds_toArray, List.set_cons_zero, List.set_cons_succ]
                refine callH7 (by kernel_rfl) (fun K hK => ?_)
                go_simp
                refine hK.out _ _ (trivial) (fun hHeld => ?_)
                clear hK K
                try simp only [Act.put, List.setIfInBounds_toArray, List.set_cons_zero, List.set_cons_succ]
                refine wpAnyH_done (by kernel_rfl) ?_ _
                have ch8 : Chg (fun y => y = w1.heap.size) w7 (w7.setCell ⟨w1.heap.size, 2, none⟩ (.slice A7 (g.2.2.length + 1) c7)) := Chg.set ⟨w1.heap.size, 2, none⟩ (.slice A7 (g.2.2.length + 1) c7)
                have bxF : Box (w7.setCell ⟨w1.heap.size, 2, none⟩ (.slice A7 (g.2.2.length + 1) c7)) w1.heap.size 32 #[.slice B7 (g.1.length + 1) d7, .slice A9 (g.2.1.length + 1) c9, .slice A7 (g.2.2.length + 1) c7] := bx7.set_ 2 (.slice A7 (g.2.2.length + 1) c7)
                have bzF : Box (w7.setCell ⟨w1.heap.size, 2, none⟩ (.slice A7 (g.2.2.length + 1) c7)) w.heap.size 32 #[.slice none 0 0, .slice none 0 0, .slice none 0 0] := bz7.far (by show w.heap.size ≠ w1.heap.size; omega) _
                have hoF := hop7.chg ch8 (fun y hy => by have h3 : y = w1.heap.size := hy; omega)
                have hdF := hd7.chg ch8 (fun y hy => by have h3 : y = w1.heap.size := hy; omega)
                have hccF := hcc7.push ch8 (fun y hy => .inr (by have h3 : y = w1.heap.size := hy; omega))
                go_wp2
                exact ⟨⟨k + 1, _, _, _, (g.1 ++ [x0], g.2.1 ++ [xs], g.2.2 ++ [x]), by omega, by go_num, parUp_succ HZ.out HX0.out HS.out.2 HS.out.1 hx6, bzF, bxF, hoF, hdF, hccF⟩, by simp [intOf]; omega⟩
              · go_simp
                go_at_call 17
                refine (below w0 _ b 6 hdD (by omega)).mono ?_; rintro e w6 ⟨x, rfl, hx6, hd6, hc6⟩
                have bx6 : Box w6 w1.heap.size 32 #[.slice B7 (g.1.length + 1) d7, .slice A9 (g.2.1.length + 1) c9, .slice A2 g.2.2.length c2] := (hc6.block _ bxD.lt (fun e => by have h3 : w1.heap.size = b := e; omega)).trans bxD
                have bz6 : Box w6 w.heap.size 32 #[.slice none 0 0, .slice none 0 0, .slice none 0 0] := (hc6.block _ bzD.lt (fun e => by have h3 : w.heap.size = b := e; omega)).trans bzD
                have g6 := bx6.c2
                have hop6 := hoD.chg hc6 (fun y hy => by have h3 : y = b := hy; omega)
                have hcc6 := chg_then hccD hc6
                have hl6 : w1.heap.size + 1 ≤ w6.heap.size := Nat.le_trans hlw hc6.size
                have g6A : ∀ o, (w6.alloc o).cell? ⟨w1.heap.size, 2, none⟩ = some (.slice A2 g.2.2.length c2) := fun o => keepA g6
                go_wp2_with fail
                refine hK.out _ _ (trivial) (fun hHeld => ?_)
                clear hK K
                try simp only [Act.put, List.setIfInBounds_toArray, List.set_cons_zero, List.set_cons_succ]
                refine twoH_1_4 (by kernel_rfl) (fun K hK => ?_) (fun K hK => ?_)
                · go_simp
                  refine hK.out _ _ (trivial) (fun hHeld => ?_)
                  clear hK K
                  try simp only [Act.put, List.setIfInBounds_toArray, List.set_cons_zero, List.set_cons_succ]
                  refine callH4 (by kernel_rfl) (fun K hK => ?_)
                  go_simp
                  refine hK.out _ _ (trivial) (fun hHeld => ?_)
                  clear hK K
                  try simp only [Act.put, List.setIfInBounds_toArray, List.set_cons_zero, List.set_cons_succ]
                  refine callH5 (by kernel_rfl) (fun K hK => ?_)
                  have hbA : Below w6.heap.size w6 (w6.alloc (.cells #[.int .i64 x] 2)) := below_alloc (Nat.le_refl _) (Below.refl _ _)
                  have hq1 : RI (w6.alloc (.cells #[.int .i64 x] 2)) (some ⟨w6.heap.size, 0, none⟩) 1 1 [x] := RI.one1 ((Box.new w6 2 #[.int .i64 x]).cell 0)
                  have hopA := hop6.below hbA
                  have hoA : OI 2 (w6.alloc (.cells #[.int .i64 x] 2)) (w1.heap.size + 1) (.slice A2 g.2.2.length c2) g.2.2 := hopA.row2
                  have hlA : w1.heap.size + 1 ≤ (w6.alloc (.cells #[.int .i64 x] 2)).heap.size := Nat.le_trans hl6 hbA.size
                  refine step_of_list (by rfl) (wp_appI (.tmp 52) (.tmp 55) (by rfl) (w6.alloc (.cells #[.int .i64 x] 2)) (w1.heap.size + 1) (.slice A2 g.2.2.length c2) g.2.2 (by rfl) hoA (some ⟨w6.heap.size, 0, none⟩) 1 1 [x] (by rfl) hq1 hkz2 (by omega) hlA ?_)
                  intro v7 w7 ho7 hb7 hc7 hat7
                  obtain ⟨A7, c7, h1e⟩ := ho7.form
                  have h1f : v7 = .slice A7 (g.2.2.length + 1) c7 := by rw [h1e]; simp
                  clear h1e
                  subst h1f
                  have hown : ∀ y, (Value.slice A2 g.2.2.length c2).ownBlock = some y → w1.heap.size + 1 ≤ y := fun y hy => (hoA.lt y hy).1
                  have hop7 := hopA.set2 hc7 ho7 hat7
                  have bx7 : Box w7 w1.heap.size 32 #[.slice B7 (g.1.length + 1) d7, .slice A9 (g.2.1.length + 1) c9, .slice A2 g.2.2.length c2] := (hc7.block _ (bx6.alloc _).lt (fun e => by have := hown _ e; omega)).trans (bx6.alloc _)
                  have bz7 : Box w7 w.heap.size 32 #[.slice none 0 0, .slice none 0 0, .slice none 0 0] := (hc7.block _ (bz6.alloc _).lt (fun e => by have := hown _ e; omega)).trans (bz6.alloc _)
                  have hd7 := (hd6.on hbA).chg hc7 (fun y hy => by have := hown y hy; omega)
                  have hcc7 := (hcc6.then_below hbA (by omega)).push hc7 (fun y hy => .inr (by have := hown y hy; omega))
                  have g7 := bx7.c2
                  have f7 := bx7.hot 2
                  have hl7 := Nat.le_trans hlA hc7.size
                  clear hop6 hopA hoA hq1 bx6 bz6 hd6 hcc6 hc6 hbA hat7
                  refine hK.out _ _ (trivial) (fun hHeld => ?_)
                  clear hK K
                  try simp only [Act.put, List.setIfInBounds_toArray, List.set_cons_zero, List.set_cons_succ]
                  refine takeH6 (v := ?_) (by kernel_rfl) (by kernel_rfl) (by kernel_rfl) (fun _ _ _ h => h) hHeld (by rfl) ?_ ?_
                  rotate_left; · (intro w hSw; (try dsimp only at hSw); go_simp; try with_reducible rfl)
                  try simp only [Act.put, List.setIfInBounds_toArray, List.set_cons_zero, List.set_cons_succ]
                  refine callH7 (by kernel_rfl) (fun K hK => ?_)
                  go_simp
                  refine hK.out _ _ (trivial) (fun hHeld => ?_)
                  clear hK K
                  try simp only [Act.put, List.setIfInBounds_toArray, List.set_cons_zero, List.set_cons_succ]
                  refine wpAnyH_done (by kernel_rfl) ?_ _
                  have ch8 : Chg (fun y => y = w1.heap.size) w7 (w7.setCell ⟨w1.heap.size, 2, none⟩ (.slice A7 (g.2.2.length + 1) c7)) := Chg.set ⟨w1.heap.size, 2, none⟩ (.slice A7 (g.2.2.length + 1) c7)
                  have bxF : Box (w7.setCell ⟨w1.heap.size, 2, none⟩ (.slice A7 (g.2.2.length + 1) c7)) w1.heap.size 32 #[.slice B7 (g.1.length + 1) d7, .slice A9 (g.2.1.length + 1) c9, .slice A7 (g.2.2.length + 1) c7] := bx7.set_ 2 (.slice A7 (g.2.2.length + 1) c7)
                  have bzF : Box (w7.setCell ⟨w1.heap.size, 2, none⟩ (.slice A7 (g.2.2.length + 1) c7)) w.heap.size 32 #[.slice none 0 0, .slice none 0 0, .slice none 0 0] := bz7.far (by show w.heap.size ≠ w1.heap.size; omega) _
                  have hoF := hop7.chg ch8 (fun y hy => by have h3 : y = w1.heap.size := hy; omega)
                  have hdF := hd7.chg ch8 (fun y hy => by have h3 : y = w1.heap.size := hy; omega)
                  have hccF := hcc7.push ch8 (fun y hy => .inr (by have h3 : y = w1.heap.size := hy; omega))
                  go_wp2
                  exact ⟨⟨k + 1, _, _, _, (g.1 ++ [x0], g.2.1 ++ [xs], g.2.2 ++ [x]), by omega, by go_num, parUp_succ HZ.out HX0.out HS.out.2 HS.out.1 hx6, bzF, bxF, hoF, hdF, hccF⟩, by simp [intOf]; omega⟩
                · go_simp
                  refine hK.out _ _ (trivial) (fun hHeld => ?_)
                  clear hK K
                  try simp only [Act.put, List.setIfInBounds_toArray, List.set_cons_zero, List.set_cons_succ]
                  refine callH1 (by kernel_rfl) (fun K hK => ?_)
                  go_simp
                  refine hK.out _ _ (trivial) (fun hHeld => ?_)
                  clear hK K
                  try simp only [Act.put, List.setIfInBounds_toArray, List.set_cons_zero, List.set_cons_succ]
                  refine callH5 (by kernel_rfl) (fun K hK => ?_)
                  have hbA : Below w6.heap.size w6 (w6.alloc (.cells #[.int .i64 x] 2)) := below_alloc (Nat.le_refl _) (Below.refl _ _)
                  have hq1 : RI (w6.alloc (.cells #[.int .i64 x] 2)) (some ⟨w6.heap.size, 0, none⟩) 1 1 [x] := RI.one1 ((Box.new w6 2 #[.int .i64 x]).cell 0)
                  have hopA := hop6.below hbA
                  have hoA : OI 2 (w6.alloc (.cells #[.int .i64 x] 2)) (w1.heap.size + 1) (.slice A2 g.2.2.length c2) g.2.2 := hopA.row2
                  have hlA : w1.heap.size + 1 ≤ (w6.alloc (.cells #[.int .i64 x] 2)).heap.size := Nat.le_trans hl6 hbA.size
                  refine step_of_list (by rfl) (wp_appI (.tmp 52) (.tmp 55) (by rfl) (w6.alloc (.cells #[.int .i64 x] 2)) (w1.heap.size + 1) (.slice A2 g.2.2.length c2) g.2.2 (by rfl) hoA (some ⟨w6.heap.size, 0, none⟩) 1 1 [x] (by rfl) hq1 hkz2 (by omega) hlA ?_)
                  intro v7 w7 ho7 hb7 hc7 hat7
                  obtain ⟨A7, c7, h1e⟩ := ho7.form
                  have h1f : v7 = .slice A7 (g.2.2.length + 1) c7 := by rw [h1e]; simp
                  clear h1e
                  subst h1f
                  have hown : ∀ y, (Value.slice A2 g.2.2.length c2).ownBlock = some y → w1.heap.size + 1 ≤ y := fun y hy => (hoA.lt y hy).1
                  have hop7 := hopA.set2 hc7 ho7 hat7
                  have bx7 : Box w7 w1.heap.size 32 #[.slice B7 (g.1.length + 1) d7, .slice A9 (g.2.1.length + 1) c9, .slice A2 g.2.2.length c2] := (hc7.block _ (bx6.alloc _).lt (fun e => by have := hown _ e; omega)).trans (bx6.alloc _)
                  have bz7 : Box w7 w.heap.size 32 #[.slice none 0 0, .slice none 0 0, .slice none 0 0] := (hc7.block _ (bz6.alloc _).lt (fun e => by have := hown _ e; omega)).trans (bz6.alloc _)
                  have hd7 := (hd6.on hbA).chg hc7 (fun y hy => by have := hown y hy; omega)
                  have hcc7 := (hcc6.then_below hbA (by omega)).push hc7 (fun y hy => .inr (by have := hown y hy; omega))
                  have g7 := bx7.c2
                  have f7 := bx7.hot 2
                  have hl7 := Nat.le_trans hlA hc7.size
                  clear hop6 hopA hoA hq1 bx6 bz6 hd6 hcc6 hc6 hbA hat7
                  refine hK.out _ _ (trivial) (fun hHeld => ?_)
                  clear hK K
                  try simp only [Act.put, List.setIfInBounds_toArray, List.set_cons_zero, List.set_cons_succ]
                  refine takeH6 (v := ?_) (by kernel_rfl) (by kernel_rfl) (by kernel_rfl) (fun _ _ _ h => h) hHeld (by rfl) ?_ ?_
                  rotate_left; · (intro w hSw; (try dsimp only at hSw); go_simp; try with_reducible rfl)
                  try simp only [Act.put, List.setIfInBounds_toArray, List.set_cons_zero, List.set_cons_succ]
                  refine callH7 (by kernel_rfl) (fun K hK => ?_)
                  go_simp
                  refine hK.out _ _ (trivial) (fun hHeld => ?_)
                  clear hK K
                  try simp only [Act.put, List.setIfInBounds_toArray, List.set_cons_zero, List.set_cons_succ]
                  refine wpAnyH_done (by kernel_rfl) ?_ _
                  have ch8 : Chg (fun y => y = w1.heap.size) w7 (w7.setCell ⟨w1.heap.size, 2, none⟩ (.slice A7 (g.2.2.length + 1) c7)) := Chg.set ⟨w1.heap.size, 2, none⟩ (.slice A7 (g.2.2.length + 1) c7)
                  have bxF : Box (w7.setCell ⟨w1.heap.size, 2, none⟩ (.slice A7 (g.2.2.length + 1) c7)) w1.heap.size 32 #[.slice B7 (g.1.length + 1) d7, .slice A9 (g.2.1.length + 1) c9, .slice A7 (g.2.2.length + 1) c7] := bx7.set_ 2 (.slice A7 (g.2.2.length + 1) c7)
                  have bzF : Box (w7.setCell ⟨w1.heap.size, 2, none⟩ (.slice A7 (g.2.2.length + 1) c7)) w.heap.size 32 #[.slice none 0 0, .slice none 0 0, .slice none 0 0] := bz7.far (by show w.heap.size ≠ w1.heap.size; omega) _
                  have hoF := hop7.chg ch8 (fun y hy => by have h3 : y = w1.heap.size := hy; omega)
                  have hdF := hd7.chg ch8 (fun y hy => by have h3 : y = w1.heap.size := hy; omega)
                  have hccF := hcc7.push ch8 (fun y hy => .inr (by have h3 : y = w1.heap.size := hy; omega))
                  go_wp2
                  exact ⟨⟨k + 1, _, _, _, (g.1 ++ [x0], g.2.1 ++ [xs], g.2.2 ++ [x]), by omega, by go_num, parUp_succ HZ.out HX0.out HS.out.2 HS.out.1 hx6, bzF, bxF, hoF, hdF, hccF⟩, by simp [intOf]; omega⟩
    · obtain rfl : m = k := by omega
      obtain ⟨A0, c0, A1, c1, A2, c2, rfl, rfl, rfl⟩ := ho.form
      have p0 := bx.c0; have p1 := bx.c1; have p2 := bx.c2; have e0 := bz.c0; have e1 := bz.c1; have e2 := bz.c2; have f0 := bz.hot 0; have f1 := bz.hot 1; have f2 := bz.hot 2
      have hs2 := hc.size
      have ch := Chg.set3 wr w.heap.size (.slice A0 g.1.length c0) (.slice A1 g.2.1.length c1) (.slice A2 g.2.2.length c2)
      have bF := bz.set3 (.slice A0 g.1.length c0) (.slice A1 g.2.1.length c1) (.slice A2 g.2.2.length c2)
      have R0 := bF.c0; have R1 := bF.c1; have R2 := bF.c2
      have fo := ho.chg ch (fun y hy => by have h3 : y = w.heap.size := hy; omega)
      have fd := hdr.chg ch (fun y hy => by have h3 : y = w.heap.size := hy; omega)
      have fc := hc.push ch (fun y hy => .inr (by have h3 : y = w.heap.size := hy; omega))
      have HA := Lib.hid (show parB g = true ∧ (g.1.length : Int) ≤ most ∧ ∀ v, v < g.2.2.length → gi g.2.2 v < 6 from ⟨parUp_ok HZ.out hm1 hm2, by rw [show g.1.length = m from HZ.out.1.1]; exact HX.out, fun v hv => (HZ.out.2.2 v (by rw [← HZ.out.2.1]; exact hv)).2⟩)
      clear hz1 hz2 hz3
      go_wp2
      exact bodyPost_ret (v := .agg #[.slice A0 g.1.length c0, .slice A1 g.2.1.length c1, .slice A2 g.2.2.length c2]) (by simp [results, Tryz.results6, go_sem, R0, R1, R2]) rfl ⟨_, _, _, g, rfl, HA, fo.more (by omega), fd, fc⟩
end Go.Proofs.YtkhkdnmpbfmmeaaGreatDoor
namespace Go.Proofs.YtkhkdnmpbfmmeaaGreatDoor
open Go.RowKit

/-- the text of these bytes -/
def tx (l : List UInt8) : ByteArray := ⟨l.toArray⟩
theorem tx_data (l : List UInt8) : (tx l).data.toList = l := by simp [tx]
theorem tx_of (s : ByteArray) : tx s.data.toList = s := Lib.mk_data s
theorem tx_size (l : List UInt8) : (tx l).size = l.length := by rw [Lib.size_eq, tx_data]
theorem tx_app (a b : List UInt8) : tx a ++ tx b = tx (a ++ b) := by
  rw [← tx_of (tx a ++ tx b)]
  congr 1
theorem tx_ext (s : ByteArray) (a b : Nat) : s.extract a b = tx ((s.data.toList.drop a).take (b - a)) := Lib.extract_eq s a b

/-! ### cutting at a byte -/
def spl (c : UInt8) : List UInt8 → List (List UInt8)
  | [] => [[]]
  | b :: l => if b = c then [] :: spl c l else
    match spl c l with
    | [] => [[b]]
    | x :: r => (b :: x) :: r
theorem spl_none (c : UInt8) : ∀ (a : List UInt8), c ∉ a → spl c a = [a]
  | [], _ => rfl
  | b :: a, h => by
    have hb : b ≠ c := fun e => h (by simp [e])
    rw [spl, if_neg hb, spl_none c a (fun e => h (List.mem_cons_of_mem _ e))]
theorem spl_hit (c : UInt8) (l : List UInt8) : ∀ (a : List UInt8), c ∉ a → spl c (a ++ c :: l) = a :: spl c l
  | [], _ => by rw [List.nil_append, spl, if_pos rfl]
  | b :: a, h => by
    have hb : b ≠ c := fun e => h (by simp [e])
    rw [List.cons_append, spl, if_neg hb, spl_hit c l a (fun e => h (List.mem_cons_of_mem _ e))]
theorem spl_ne (c : UInt8) (l : List UInt8) : spl c l ≠ [] := by
  cases l with
  | nil => simp [spl]
  | cons b l =>
    unfold spl
    split
    · simp
    · split <;> simp
theorem spl_cut {c : UInt8} {l : List UInt8} (h : c ∈ l) : ∃ a b, l = a ++ c :: b ∧ c ∉ a := by
  induction l with
  | nil => cases h
  | cons x l ih =>
    by_cases e : x = c
    · exact ⟨[], l, by simp [e], by simp⟩
    · have h' : c ∈ l := by
        rcases List.mem_cons.1 h with h1 | h1
        · exact absurd h1.symm e
        · exact h1
      obtain ⟨a, b, h1, h2⟩ := ih h'
      exact ⟨x :: a, b, by rw [h1]; rfl, fun hm => by
        rcases List.mem_cons.1 hm with h3 | h3
        · exact e h3.symm
        · exact h2 h3⟩
/-- how long the text is -/
theorem spl_length (c : UInt8) : ∀ (n : Nat) (l : List UInt8), l.length ≤ n → l.length + 1 = ((spl c l).map (·.length + 1)).sum := by
  intro n
  induction n with
  | zero =>
    intro l h
    obtain rfl : l = [] := List.length_eq_zero_iff.1 (by omega)
    simp [spl]
  | succ n ih =>
    intro l h
    by_cases hc : c ∈ l
    · obtain ⟨a, b, rfl, ha⟩ := spl_cut hc
      have := ih b (by simp at h; omega)
      rw [spl_hit c b a ha, List.map_cons, List.sum_cons, ← this]
      simp
      omega
    · rw [spl_none c l hc]
      simp
theorem index_cut (c : UInt8) (b : List UInt8) : ∀ (a : List UInt8), c ∉ a → Lib.index (a ++ c :: b) [c] = (a.length : Int)
  | [], _ => by rw [List.nil_append, Lib.index]; simp [List.isPrefixOf]
  | x :: a, h => by
    have hb : x ≠ c := fun e => h (by simp [e])
    have hp : ([c] : List UInt8).isPrefixOf (x :: (a ++ c :: b)) = false := by simp [List.isPrefixOf, Ne.symm hb]
    have hi := index_cut c b a (fun e => h (List.mem_cons_of_mem _ e))
    have hne : ((a.length : Int) == -1) = false := by rw [beq_eq_false_iff_ne]; omega
    rw [List.cons_append, Lib.index, hp, hi, hne]
    simp
theorem splitK_spl (c : UInt8) : ∀ (n : Nat) (l : List UInt8), Lib.count l [c] = n → Lib.splitK [c] 0 n l = spl c l := by
  intro n
  induction n with
  | zero =>
    intro l h
    rw [Lib.count_one] at h
    rw [spl_none c l (List.count_eq_zero.1 h)]
    rfl
  | succ n ih =>
    intro l h
    rw [Lib.count_one] at h
    obtain ⟨a, b, rfl, ha⟩ := spl_cut (List.count_pos_iff.1 (by omega : 0 < l.count c))
    have hi := index_cut c b a ha
    have hne : ((a.length : Int) == -1) = false := by rw [beq_eq_false_iff_ne]; omega
    have hb : Lib.count b [c] = n := by
      rw [Lib.count_one]
      rw [List.count_append, List.count_eq_zero.2 ha, List.count_cons_self] at h
      omega
    rw [Lib.splitK, hi, hne, spl_hit c b a ha]
    simp only [Bool.false_eq_true, if_false, Int.toNat_natCast, Nat.add_zero, List.length_singleton]
    rw [List.take_left, List.drop_append, List.drop_of_length_le (by omega), show a.length + 1 - a.length = 1 by omega]
    simp [ih b hb]
theorem split_spl (c : UInt8) (s : ByteArray) : (Lib.splitB ⟨#[c]⟩ 0 (Lib.countB s ⟨#[c]⟩) s).map (·.data.toList) = spl c s.data.toList := by
  rw [Lib.splitB_data]
  exact splitK_spl c _ _ rfl
/-- the pieces as texts -/
def splT (c : UInt8) (s : ByteArray) : List ByteArray := (spl c s.data.toList).map tx
theorem splitB_T (c : UInt8) (s : ByteArray) : Lib.splitB ⟨#[c]⟩ 0 (Lib.countB s ⟨#[c]⟩) s = splT c s := by
  unfold splT
  rw [← split_spl, List.map_map]
  conv => lhs; rw [← List.map_id (Lib.splitB ⟨#[c]⟩ 0 (Lib.countB s ⟨#[c]⟩) s)]
  apply List.map_congr_left
  intro x _
  exact (tx_of x).symm

/-! ### numerals -/
def isDg (b : UInt8) : Bool := decide (48 ≤ b.toNat ∧ b.toNat ≤ 57)
def dgVal (l : List UInt8) : Nat := l.foldl (fun n b => 10 * n + (b.toNat - 48)) 0
theorem dgVal_snoc (l : List UInt8) (b : UInt8) : dgVal (l ++ [b]) = 10 * dgVal l + (b.toNat - 48) := by simp [dgVal]
theorem take_snoc {l : List UInt8} {k : Nat} (h : k < l.length) : l.take (k + 1) = l.take k ++ [l[k]] := List.take_succ_eq_append_getElem h
theorem dgVal_lt : ∀ (k : Nat) (l : List UInt8), k ≤ l.length → (∀ b ∈ l.take k, isDg b = true) → dgVal (l.take k) < 10 ^ k
  | 0, l, _, _ => by simp [dgVal]
  | k + 1, l, hk, h => by
    have hk' : k < l.length := hk
    rw [take_snoc hk'] at h ⊢
    have ih := dgVal_lt k l (by omega) (fun b hb => h b (List.mem_append_left _ hb))
    have h1 := of_decide_eq_true (h l[k] (List.mem_append_right _ (by simp)))
    rw [dgVal_snoc, Nat.pow_succ]
    omega
def rdOk (l : List UInt8) : Bool := decide (0 < l.length ∧ l.length ≤ 9 ∧ ¬ (l.head? = some 48 ∧ 1 < l.length) ∧ ∀ b ∈ l, isDg b = true)
/-- the number from 0 to most of a text; -1: it is none -/
def rdNum (l : List UInt8) (most : Int) : Int := if rdOk l = true ∧ (dgVal l : Int) ≤ most then (dgVal l : Int) else -1

/-! #### the numeral of a number -/
theorem dec_small {u : Nat} (h : u < 10) : Lib.decDigits u = [UInt8.ofNat (48 + u)] := by rw [Lib.decDigits, dif_pos h]
theorem dec_big {u : Nat} (h : ¬ u < 10) : Lib.decDigits u = Lib.decDigits (u / 10) ++ [UInt8.ofNat (48 + u % 10)] := by rw [Lib.decDigits, dif_neg h]
theorem dg_ofNat {u : Nat} (h : u < 10) : (UInt8.ofNat (48 + u)).toNat = 48 + u := by
  rw [UInt8.toNat_ofNat']
  omega
theorem isDg_of {u : Nat} (h : u < 10) : isDg (UInt8.ofNat (48 + u)) = true := decide_eq_true (by rw [dg_ofNat h]; omega)
theorem dec_dg : ∀ u : Nat, ∀ b ∈ Lib.decDigits u, isDg b = true := by
  intro u
  induction u using Nat.strongRecOn with
  | _ u ih =>
    intro b hb
    by_cases h : u < 10
    · rw [dec_small h] at hb
      rw [List.mem_singleton.1 hb]
      exact isDg_of h
    · rw [dec_big h, List.mem_append] at hb
      rcases hb with hb | hb
      · exact ih (u / 10) (by omega) b hb
      · rw [List.mem_singleton.1 hb]
        exact isDg_of (by omega)
theorem dec_val : ∀ u : Nat, dgVal (Lib.decDigits u) = u := by
  intro u
  induction u using Nat.strongRecOn with
  | _ u ih =>
    by_cases h : u < 10
    · rw [dec_small h, show [UInt8.ofNat (48 + u)] = [] ++ [UInt8.ofNat (48 + u)] from rfl, dgVal_snoc, dg_ofNat h]
      simp [dgVal]
    · rw [dec_big h, dgVal_snoc, ih (u / 10) (by omega), dg_ofNat (by omega)]
      omega
theorem dec_ne (u : Nat) : 0 < (Lib.decDigits u).length := by
  rw [Lib.decDigits_length]
  exact Lib.nDigits_pos u
theorem dec_head : ∀ u : Nat, 1 < (Lib.decDigits u).length → (Lib.decDigits u).head? ≠ some 48 := by
  intro u
  induction u using Nat.strongRecOn with
  | _ u ih =>
    intro hl
    by_cases h : u < 10
    · rw [dec_small h] at hl
      simp at hl
    · rw [dec_big h]
      have hne := dec_ne (u / 10)
      have hh : (Lib.decDigits (u / 10) ++ [UInt8.ofNat (48 + u % 10)]).head? = (Lib.decDigits (u / 10)).head? := by
        cases e : Lib.decDigits (u / 10) with
        | nil => rw [e] at hne; simp at hne
        | cons x r => rfl
      rw [hh]
      by_cases h2 : u / 10 < 10
      · rw [dec_small h2]
        intro e
        simp only [List.head?_cons, Option.some.injEq] at e
        have := congrArg UInt8.toNat e
        rw [dg_ofNat h2] at this
        simp at this
        omega
      · refine ih (u / 10) (by omega) ?_
        rw [dec_big h2, List.length_append]
        have := dec_ne (u / 10 / 10)
        simp
        omega
theorem dec_len9 {u : Nat} (h : u < 1000000000) : (Lib.decDigits u).length ≤ 9 := by
  rw [Lib.decDigits_length]
  have key : ∀ (k u : Nat), u < 10 ^ (k + 1) → Lib.nDigits u ≤ k + 1 := by
    intro k
    induction k with
    | zero => intro u h; rw [Lib.nDigits_small (by simpa using h)]; omega
    | succ k ih =>
      intro u h
      by_cases h1 : u < 10
      · rw [Lib.nDigits_small h1]; omega
      · rw [Lib.nDigits_big h1]
        have := ih (u / 10) (by rw [Nat.pow_succ] at h; omega)
        omega
  exact key 8 u h
theorem rdOk_dec {u : Nat} (h : u < 1000000000) : rdOk (Lib.decDigits u) = true :=
  decide_eq_true ⟨dec_ne u, dec_len9 h, fun e => dec_head u e.2 e.1, dec_dg u⟩
theorem itoa_nat (u : Nat) : Lib.itoa (u : Int) = Lib.decDigits u := by
  unfold Lib.itoa
  rw [if_neg (by omega), Int.toNat_natCast]
theorem rdNum_dec {u : Nat} {most : Int} (h : u < 1000000000) (hm : (u : Int) ≤ most) : rdNum (Lib.decDigits u) most = u := by
  unfold rdNum
  rw [if_pos ⟨rdOk_dec h, by rw [dec_val]; exact hm⟩, dec_val]
theorem dec_clean {u : Nat} {c : UInt8} (h : isDg c = false) : c ∉ Lib.decDigits u := fun hc => by
  rw [dec_dg u c hc] at h
  cases h
theorem rdNum_le {l : List UInt8} {most : Int} (h : 0 ≤ rdNum l most) : rdNum l most ≤ most ∧ rdNum l most = (dgVal l : Int) ∧ rdOk l = true := by
  unfold rdNum at h ⊢
  split at h
  · rename_i h1
    rw [if_pos h1]
    exact ⟨h1.2, rfl, h1.1⟩
  · omega

/-! ### joining -/
theorem join_take (xs : List (List UInt8)) (sep : List UInt8) (k : Nat) (h : k < xs.length) :
    Lib.join (xs.take (k + 1)) sep = (if k = 0 then [] else Lib.join (xs.take k) sep ++ sep) ++ xs[k] := by
  cases xs with
  | nil => simp at h
  | cons x r =>
    cases k with
    | zero => simp [Lib.join_one]
    | succ k =>
      rw [List.take_succ_cons, List.take_succ_cons, Lib.join_cons, Lib.join_cons, if_neg (by omega)]
      have h' : k < r.length := by simpa using h
      rw [Lib.joinTail_take_succ sep r k r[k] (by simp [h'])]
      simp
/-- cut at the separator, what was joined is what it was -/
theorem spl_join (c : UInt8) : ∀ (xs : List (List UInt8)), xs ≠ [] → (∀ x ∈ xs, c ∉ x) → spl c (Lib.join xs [c]) = xs
  | [], h, _ => absurd rfl h
  | [x], _, hx => by rw [Lib.join_one, spl_none c x (hx x (by simp))]
  | x :: y :: r, _, hx => by
    have ih := spl_join c (y :: r) (by simp) (fun z hz => hx z (List.mem_cons_of_mem _ hz))
    have e : Lib.join (x :: y :: r) [c] = x ++ c :: Lib.join (y :: r) [c] := by
      rw [Lib.join_cons, Lib.join_cons]
      simp [Lib.joinTail]
    rw [e, spl_hit c _ x (hx x (by simp)), ih]
end Go.Proofs.YtkhkdnmpbfmmeaaGreatDoor
namespace Go.Proofs.YtkhkdnmpbfmmeaaGreatDoor
open Go.RowKit

theorem at_byte (s : ByteArray) {k : Nat} (h : k < s.size) : s.data.toList[k]? = some (s[k]'h) := by
  rw [Array.getElem?_toList]
  exact Array.getElem?_eq_getElem h
theorem empty_of {s : ByteArray} (h : s.size < 1) : s = { data := #[] } := by
  rw [← tx_of s]
  rw [Lib.size_eq] at h
  rw [List.length_eq_zero_iff.1 (by omega : s.data.toList.length = 0)]
  rfl
theorem filled_of {s : ByteArray} (h : ¬ s.size < 1) : s.toList.isEmpty = false := by
  rw [Lib.toList_data]
  rw [Lib.size_eq] at h
  cases e : s.data.toList with
  | nil => rw [e] at h; simp at h
  | cons x r => rfl
def rdVal (l : List UInt8) : Int := if rdOk l = true then (dgVal l : Int) else 0
theorem rdVal_ok {l : List UInt8} (h : rdOk l = true) : rdVal l = (dgVal l : Int) := if_pos h
theorem rdVal_no {l : List UInt8} (h : rdOk l = false) : rdVal l = 0 := by unfold rdVal; rw [h]; rfl

set_option maxHeartbeats 1600000 in
theorem readNumber (s : ByteArray) (n : Int) (w : World) :
    Calls Tryz.prog 25 #[.string s, .int .i64 n] w fun e w' => e = .returned (.tuple #[.int .i64 (rdVal s.data.toList), .bool (rdOk s.data.toList && decide (rdVal s.data.toList < n))]) ∧ Qt w w' := by
  have hsz : s.data.toList.length = s.size := (Lib.size_eq s).symm
  by_cases h1 : s.size < 1
  · have E := Lib.hid (show rdOk s.data.toList = false from decide_eq_false fun h => by have := h.1; omega)
    have hs0 : s.toList.isEmpty = true := by rw [empty_of h1, Lib.toList_data]; rfl
    clear hsz h1
    go_enter Tryz.func25, Tryz.ntmps25
    go_wp2
    refine bodyPost_ret (v := .tuple #[.int .i64 0, .bool false]) (by simp [results, Tryz.results25, go_sem]) rfl ?_
    exact ⟨by rw [rdVal_no E.out, E.out]; rfl, Qt.refl _⟩
  have hs0 : s.toList.isEmpty = false := filled_of h1
  by_cases h2 : 9 < s.size
  · have E := Lib.hid (show rdOk s.data.toList = false from decide_eq_false fun h => by have := h.2.1; omega)
    clear hsz
    go_enter Tryz.func25, Tryz.ntmps25
    go_wp2
    refine bodyPost_ret (v := .tuple #[.int .i64 0, .bool false]) (by simp [results, Tryz.results25, go_sem]) rfl ?_
    exact ⟨by rw [rdVal_no E.out, E.out]; rfl, Qt.refl _⟩
  have h0 : 0 < s.size := by omega
  have hd0 : s.data.toList.head? = some (s[0]'h0) := by
    rw [List.head?_eq_getElem?]
    exact at_byte s h0
  by_cases h3 : ((s[0]'h0).toNat : Int) = 48 ∧ 1 < s.size
  · have E := Lib.hid (show rdOk s.data.toList = false from decide_eq_false fun h => h.2.2.1 ⟨by rw [hd0]; exact congrArg some (by rw [← UInt8.toNat_inj]; simpa using (by omega : (s[0]'h0).toNat = 48)), by omega⟩)
    have h3a : (((s[0]'h0).toNat : Int) == 48) = true := by simpa using h3.1
    have h3b : (1 : Int) < (s.size : Int) := by omega
    clear hsz h3 hd0
    go_enter Tryz.func25, Tryz.ntmps25
    go_wp2
    refine bodyPost_ret (v := .tuple #[.int .i64 0, .bool false]) (by simp [results, Tryz.results25, go_sem]) rfl ?_
    exact ⟨by rw [rdVal_no E.out, E.out]; rfl, Qt.refl _⟩
  have H3 := Lib.hid (show ¬ (s.data.toList.head? = some 48 ∧ 1 < s.data.toList.length) from fun h => h3 ⟨by rw [hd0] at h; have := Option.some.inj h.1; rw [this]; rfl, by omega⟩)
  have H1 := Lib.hid (show 0 < s.size ∧ s.size ≤ 9 by omega)
  have hs9 : s.size ≤ 9 := by omega
  have hc : ((((s[0]'h0).toNat : Int) == 48) = true ∧ (s.size : Int) ≤ 1) ∨ ((((s[0]'h0).toNat : Int) == 48) = false ∧ (0 : Int) ≤ (s.size : Int)) := by
    by_cases e : ((s[0]'h0).toNat : Int) = 48
    · exact .inl ⟨by simpa using e, by omega⟩
    · exact .inr ⟨by simpa using e, by omega⟩
  have HZ := Lib.hid hsz
  clear hsz h3 hd0
  rcases hc with ⟨hc1, hc2⟩ | ⟨hc1, hc2⟩
  all_goals
    go_enter Tryz.func25, Tryz.ntmps25
    go_wp2
    go_loop [6, 7] (fun n i => ∃ k : Nat, k ≤ s.size ∧ i = .int .i64 k ∧ n = .int .i64 (dgVal (s.data.toList.take k) : Int) ∧ ∀ b ∈ s.data.toList.take k, isDg b = true) (fun _ i => s.size - (intOf i).toNat)
    case atStart => exact ⟨0, Nat.zero_le _, rfl, rfl, by simp⟩
    case round =>
      obtain ⟨k, hk, rfl, rfl, hall⟩ := hrel
      have HA := Lib.hid hall
      have hlt9 : dgVal (s.data.toList.take k) < 1000000000 := Nat.lt_of_lt_of_le (dgVal_lt k _ (by rw [HZ.out]; exact hk) hall) (Nat.pow_le_pow_right (n := 10) (j := 9) (by decide) (by omega))
      clear hall
      by_cases hlt : k < s.size
      · have hsn : s.data.toList.take (k + 1) = s.data.toList.take k ++ [s[k]'hlt] := by
          rw [take_snoc (by rw [HZ.out]; exact hlt)]
          rfl
        have hb255 : (s[k]'hlt).toNat < 256 := UInt8.toNat_lt _
        by_cases hd : 48 ≤ (s[k]'hlt).toNat ∧ (s[k]'hlt).toNat ≤ 57
        · have hd1 : (48 : Int) ≤ ((s[k]'hlt).toNat : Int) := by omega
          have hd2 : ((s[k]'hlt).toNat : Int) ≤ 57 := by omega
          have HD := Lib.hid hd
          have HS := Lib.hid hsn
          have e1 : IntKind.u8.wrap (((s[k]'hlt).toNat : Int) - 48) = ((s[k]'hlt).toNat : Int) - 48 := IntWalk.u8_in _ (by omega)
          clear hd hsn
          go_wp2
          go_round
          case rel =>
            refine ⟨k + 1, by omega, by go_num, val_i (by rw [HS.out, dgVal_snoc]; have := HD.out; omega), fun b hb => ?_⟩
            rw [HS.out] at hb
            rcases List.mem_append.1 hb with hb | hb
            · exact HA.out b hb
            · rw [List.mem_singleton.1 hb]
              exact decide_eq_true HD.out
          case measure => simp [intOf]; omega
        · have E := Lib.hid (show rdOk s.data.toList = false from decide_eq_false fun h => hd (of_decide_eq_true (h.2.2.2 _ (List.mem_of_getElem? (at_byte s hlt)))))
          have hd' : (((s[k]'hlt).toNat : Int) < 48 ∧ (0 : Int) ≤ (s.size : Int)) ∨ ((48 : Int) ≤ ((s[k]'hlt).toNat : Int) ∧ (57 : Int) < ((s[k]'hlt).toNat : Int)) := by omega
          clear hd hsn
          rcases hd' with ⟨hd1, hd2⟩ | ⟨hd1, hd2⟩
          all_goals
            go_wp2
            refine bodyPost_ret (v := .tuple #[.int .i64 0, .bool false]) (by simp [results, Tryz.results25, go_sem]) rfl ?_
            exact ⟨by rw [rdVal_no E.out, E.out]; rfl, Qt.refl _⟩
      · obtain rfl : k = s.size := by omega
        have E := Lib.hid (show rdOk s.data.toList = true from decide_eq_true ⟨by rw [HZ.out]; exact H1.out.1, by rw [HZ.out]; exact H1.out.2, H3.out, fun b hb => HA.out b (by rw [List.take_of_length_le (by rw [HZ.out]; exact Nat.le_refl _)]; exact hb)⟩)
        go_wp2
        refine bodyPost_ret (v := .tuple #[.int .i64 (dgVal (s.data.toList.take s.size) : Int), .bool (decide ((dgVal (s.data.toList.take s.size) : Int) < n))]) (by simp [results, Tryz.results25, go_sem]) rfl ?_
        exact ⟨by rw [rdVal_ok E.out, E.out, List.take_of_length_le (by rw [HZ.out]; exact Nat.le_refl _)]; rfl, Qt.refl _⟩
def evB : List UInt8 := [101, 118, 101, 110]
def odB : List UInt8 := [111, 100, 100]
/-- the player of a word; -1: none -/
def plr (l : List UInt8) : Int := if l = evB then 0 else if l = odB then 1 else -1
/-- the word of a player -/
def wo (o : Int) : List UInt8 := if o = 0 then evB else odB

theorem plr_0 {s : ByteArray} (h : (s.toList == [101, 118, 101, 110]) = true) : plr s.data.toList = 0 := by
  rw [Lib.toList_data] at h
  unfold plr evB odB
  rw [if_pos (by simpa using h)]
theorem plr_1 {s : ByteArray} (h : (s.toList == [101, 118, 101, 110]) = false) (h1 : (s.toList == [111, 100, 100]) = true) : plr s.data.toList = 1 := by
  rw [Lib.toList_data] at h h1
  unfold plr evB odB
  rw [if_neg (by simpa using h), if_pos (by simpa using h1)]
theorem plr_2 {s : ByteArray} (h : (s.toList == [101, 118, 101, 110]) = false) (h1 : (s.toList == [111, 100, 100]) = false) : plr s.data.toList = -1 := by
  rw [Lib.toList_data] at h h1
  unfold plr evB odB
  rw [if_neg (by simpa using h), if_neg (by simpa using h1)]

/-- the names of the players stand where start-up laid them -/
def PN (w : World) : Prop := w.cell? ⟨0, 0, none⟩ = some (.string { data := #[101, 118, 101, 110] }) ∧ w.cell? ⟨0, 1, none⟩ = some (.string { data := #[111, 100, 100] })
theorem PN.keep {w w' : World} (h : PN w) (k : Keeps w w') : PN w' := ⟨k _ _ h.1, k _ _ h.2⟩

@[go_sem] theorem index_name0 (a b : ByteArray) (w : World) : (Instr.index 74 (.agg #[.string a, .string b]) (.int .i64 0)).run Tryz.prog w = .ok (.string a) w := by kernel_rfl
@[go_sem] theorem index_name1 (a b : ByteArray) (w : World) : (Instr.index 74 (.agg #[.string a, .string b]) (.int .i64 1)).run Tryz.prog w = .ok (.string b) w := by kernel_rfl
set_option maxRecDepth 100000 in
set_option maxHeartbeats 1600000 in
theorem playerOf (s : ByteArray) (w : World) (hp : PN w) :
    Calls Tryz.prog 33 #[.string s] w fun e w' => e = .returned (.int .i64 (plr s.data.toList)) ∧ Qt w w' := by
  obtain ⟨p0, p1⟩ := hp
  go_enter Tryz.func33, Tryz.ntmps33
  go_wp2
  go_loop [6] (fun i => i = .int .i64 0 ∨ (i = .int .i64 1 ∧ (s.toList == [101, 118, 101, 110]) = false) ∨ (i = .int .i64 2 ∧ (s.toList == [101, 118, 101, 110]) = false ∧ (s.toList == [111, 100, 100]) = false)) (fun i => 2 - (intOf i).toNat)
  case atStart => exact .inl rfl
  case round =>
    rcases hrel with rfl | ⟨rfl, h0⟩ | ⟨rfl, h0, h1⟩
    · cases e : (s.toList == [101, 118, 101, 110]) with
      | true =>
        go_wp2
        go_ret
        exact ⟨ret_i (plr_0 e).symm, Qt.refl _⟩
      | false =>
        go_wp2
        go_round
        case rel => exact .inr (.inl ⟨rfl, by first | exact e | trivial⟩)
        case measure => decide
    · cases e : (s.toList == [111, 100, 100]) with
      | true =>
        go_wp2
        go_ret
        exact ⟨ret_i (plr_1 h0 e).symm, Qt.refl _⟩
      | false =>
        go_wp2
        go_round
        case rel => exact .inr (.inr ⟨rfl, h0, by first | exact e | trivial⟩)
        case measure => decide
    · go_wp2
      go_ret
      exact ⟨ret_i (plr_2 h0 h1).symm, Qt.refl _⟩

def unm (l : List UInt8) : Int := if l = [45] then -1 else if 0 ≤ rdNum l 255 then rdNum l 255 else -2
theorem unm_dash {s : ByteArray} (h : (s.toList == [45]) = true) : unm s.data.toList = -1 := by
  rw [Lib.toList_data] at h
  exact if_pos (by simpa using h)
theorem unm_num {s : ByteArray} (h : (s.toList == [45]) = false) (h1 : 0 ≤ rdNum s.data.toList 255) : unm s.data.toList = rdNum s.data.toList 255 := by
  rw [Lib.toList_data] at h
  unfold unm
  rw [if_neg (by simpa using h), if_pos h1]
theorem unm_no {s : ByteArray} (h : (s.toList == [45]) = false) (h1 : ¬ 0 ≤ rdNum s.data.toList 255) : unm s.data.toList = -2 := by
  rw [Lib.toList_data] at h
  unfold unm
  rw [if_neg (by simpa using h), if_neg h1]

def rev (l : List UInt8) : Int := if l = [45] then -1 else rdVal l
def reb (l : List UInt8) : Bool := decide (-1 ≤ unm l)
theorem readEntry (s : ByteArray) (w : World) :
    Calls Tryz.prog 34 #[.string s] w fun e w' => e = .returned (.tuple #[.int .i64 (rev s.data.toList), .bool (reb s.data.toList)]) ∧ Qt w w' := by
  cases h : (s.toList == [45]) with
  | true =>
    have E := Lib.hid (unm_dash h)
    have E2 : Hid (rev s.data.toList = -1) := by
      rw [Lib.toList_data] at h
      exact Lib.hid (if_pos (by simpa using h))
    go_enter Tryz.func34, Tryz.ntmps34
    go_wp2
    refine bodyPost_ret (v := .tuple #[.int .i64 (-1), .bool true]) (by simp [results, Tryz.results34, go_sem]) rfl ?_
    exact ⟨by unfold reb; rw [E.out, E2.out]; rfl, Qt.refl _⟩
  | false =>
    have E2 : Hid (rev s.data.toList = rdVal s.data.toList) := by
      rw [Lib.toList_data] at h
      exact Lib.hid (if_neg (by simpa using h))
    have E3 : Hid (reb s.data.toList = (rdOk s.data.toList && decide (rdVal s.data.toList < 256))) := by
      apply Lib.hid
      unfold reb
      by_cases h1 : 0 ≤ rdNum s.data.toList 255
      · rw [unm_num h h1]
        obtain ⟨g1, g2, g3⟩ := rdNum_le h1
        rw [g3, rdVal_ok g3, ← g2]
        rw [decide_eq_true (by omega), decide_eq_true (by omega)]
        rfl
      · rw [unm_no h h1]
        rw [decide_eq_false (by omega)]
        by_cases h2 : rdOk s.data.toList = true
        · rw [h2, rdVal_ok h2]
          rw [decide_eq_false]
          · rfl
          · intro h3
            refine h1 ?_
            unfold rdNum
            rw [if_pos ⟨h2, by omega⟩]
            omega
        · rw [Bool.eq_false_iff.2 h2]
          rfl
    go_enter Tryz.func34, Tryz.ntmps34
    go_wp2_with (go_at_call 25; refine (readNumber _ _ _).mono ?_; rintro e w' ⟨rfl, q, rfl⟩)
    refine bodyPost_ret (v := .tuple #[.int .i64 (rdVal s.data.toList), .bool (rdOk s.data.toList && decide (rdVal s.data.toList < 256))]) (by simp [results, Tryz.results34, go_sem]) rfl ?_
    exact ⟨by rw [E2.out, E3.out], q, rfl⟩
end Go.Proofs.YtkhkdnmpbfmmeaaGreatDoor
namespace Go.Proofs.YtkhkdnmpbfmmeaaGreatDoor
open Go.Shelf
def Tryz.lSplit_ren : Go.Shelf.Ren := ⟨fun | 146 => 32 | 221 => 53 | 268 => 68 | 138 => 69 | 143 => 70 | 195 => 82 | 197 => 83 | 218 => 84 | 219 => 85 | 260 => 97 | 217 => 98 | 225 => 99 | 224 => 100 | 267 => 101 | 266 => 104 | 314 => 105 | n => n, fun | 9 => 9 | 31 => 37 | 3 => 3 | 4 => 4 | 0 => 0 | 105 => 123 | 21 => 21 | 5 => 5 | 46 => 77 | 119 => 139 | 139 => 142 | 138 => 141 | 146 => 143 | 51 => 132 | n => n, fun | 1 => 2 | 3 => 3 | 4 => 4 | n => n⟩
theorem Tryz.lSplit : Go.Proofs.LaysM.n146 Tryz.prog Tryz.lSplit_ren := {
  mixed := by kernel_rfl
  f138 := Tryz.func69.trans (congrArg some (by kernel_rfl))
  f143 := Tryz.func70.trans (congrArg some (by kernel_rfl))
  f146 := Tryz.func32.trans (congrArg some (by kernel_rfl))
  f195 := Tryz.func82.trans (congrArg some (by kernel_rfl))
  f197 := Tryz.func83.trans (congrArg some (by kernel_rfl))
  f217 := Tryz.func98.trans (congrArg some (by kernel_rfl))
  f218 := Tryz.func84.trans (congrArg some (by kernel_rfl))
  f219 := Tryz.func85.trans (congrArg some (by kernel_rfl))
  f221 := Tryz.func53.trans (congrArg some (by kernel_rfl))
  f224 := Tryz.func100.trans (congrArg some (by kernel_rfl))
  f225 := Tryz.func99.trans (congrArg some (by kernel_rfl))
  f260 := Tryz.func97.trans (congrArg some (by kernel_rfl))
  f266 := Tryz.func104.trans (congrArg some (by kernel_rfl))
  f267 := Tryz.func101.trans (congrArg some (by kernel_rfl))
  f268 := Tryz.func68.trans (congrArg some (by kernel_rfl))
  f314 := Tryz.func105.trans (congrArg some (by kernel_rfl))
  t0 := Tryz.underlying0
  a0 := Tryz.isAgg0
  z0 := Tryz.sizeOf0
  v0 := Tryz.zeroValue0
  t3 := Tryz.underlying3
  a3 := Tryz.isAgg3
  z3 := Tryz.sizeOf3
  v3 := Tryz.zeroValue3
  t4 := Tryz.underlying4
  a4 := Tryz.isAgg4
  z4 := Tryz.sizeOf4
  v4 := Tryz.zeroValue4
  t5 := Tryz.underlying5
  a5 := Tryz.isAgg5
  z5 := Tryz.sizeOf5
  v5 := Tryz.zeroValue5
  t9 := Tryz.underlying9
  a9 := Tryz.isAgg9
  z9 := Tryz.sizeOf9
  v9 := Tryz.zeroValue9
  t21 := Tryz.underlying21
  a21 := Tryz.isAgg21
  z21 := Tryz.sizeOf21
  v21 := Tryz.zeroValue21
  t31 := Tryz.underlying37
  a31 := Tryz.isAgg37
  z31 := Tryz.sizeOf37
  v31 := Tryz.zeroValue37
  t46 := Tryz.underlying77
  a46 := Tryz.isAgg77
  z46 := Tryz.sizeOf77
  v46 := Tryz.zeroValue77
  t51 := Tryz.underlying132
  a51 := Tryz.isAgg132
  z51 := Tryz.sizeOf132
  v51 := Tryz.zeroValue132
  t105 := Tryz.underlying123
  a105 := Tryz.isAgg123
  z105 := Tryz.sizeOf123
  v105 := Tryz.zeroValue123
  t119 := Tryz.underlying139
  a119 := Tryz.isAgg139
  z119 := Tryz.sizeOf139
  t138 := Tryz.underlying141
  a138 := Tryz.isAgg141
  z138 := Tryz.sizeOf141
  v138 := Tryz.zeroValue141
  t139 := Tryz.underlying142
  a139 := Tryz.isAgg142
  z139 := Tryz.sizeOf142
  v139 := Tryz.zeroValue142
  t146 := Tryz.underlying143
  a146 := Tryz.isAgg143
  z146 := Tryz.sizeOf143
  v146 := Tryz.zeroValue143
  g1 := by kernel_rfl
  g3 := by kernel_rfl
  g4 := by kernel_rfl
  i0 := by kernel_rfl
  i3 := by kernel_rfl
  i4 := by kernel_rfl
  i5 := by kernel_rfl
  i9 := by kernel_rfl
  i21 := by kernel_rfl
  i31 := by kernel_rfl
  i46 := by kernel_rfl
  i51 := by kernel_rfl
  i105 := by kernel_rfl
  i138 := by kernel_rfl
  i139 := by kernel_rfl
  i146 := by kernel_rfl
  m1 := by kernel_rfl
  s1_3 := fun w h => Go.Proofs.cell_of_shapedOpen_int (zero := #[.int .i64 0]) (t := 3) h (of_decide_eq_true (by kernel_rfl)) (by kernel_rfl) rfl (by kernel_rfl) (by kernel_rfl) Tryz.underlying3
  m3 := by kernel_rfl
  m4 := by kernel_rfl }
def Tryz.lJoin_ren : Go.Shelf.Ren := ⟨fun | 156 => 38 | 165 => 55 | 166 => 56 | 169 => 57 | 240 => 71 | 241 => 72 | 276 => 86 | 277 => 87 | n => n, fun | 31 => 37 | 9 => 9 | 3 => 3 | 4 => 4 | 0 => 0 | 20 => 20 | 72 => 96 | 76 => 100 | 70 => 94 | 37 => 22 | 75 => 99 | 127 => 112 | 164 => 126 | 5 => 5 | 80 => 102 | n => n, fun | n => n⟩
theorem Tryz.lJoin : Go.Proofs.Lays.n156 Tryz.prog Tryz.lJoin_ren := {
  mixed := by kernel_rfl
  f156 := Tryz.func38.trans (congrArg some (by kernel_rfl))
  f165 := Tryz.func55.trans (congrArg some (by kernel_rfl))
  f166 := Tryz.func56.trans (congrArg some (by kernel_rfl))
  f169 := Tryz.func57.trans (congrArg some (by kernel_rfl))
  f240 := Tryz.func71.trans (congrArg some (by kernel_rfl))
  f241 := Tryz.func72.trans (congrArg some (by kernel_rfl))
  f276 := Tryz.func86.trans (congrArg some (by kernel_rfl))
  f277 := Tryz.func87.trans (congrArg some (by kernel_rfl))
  t0 := Tryz.underlying0
  a0 := Tryz.isAgg0
  z0 := Tryz.sizeOf0
  v0 := Tryz.zeroValue0
  t3 := Tryz.underlying3
  a3 := Tryz.isAgg3
  z3 := Tryz.sizeOf3
  v3 := Tryz.zeroValue3
  t4 := Tryz.underlying4
  a4 := Tryz.isAgg4
  z4 := Tryz.sizeOf4
  v4 := Tryz.zeroValue4
  t9 := Tryz.underlying9
  a9 := Tryz.isAgg9
  z9 := Tryz.sizeOf9
  v9 := Tryz.zeroValue9
  t20 := Tryz.underlying20
  a20 := Tryz.isAgg20
  z20 := Tryz.sizeOf20
  v20 := Tryz.zeroValue20
  t31 := Tryz.underlying37
  a31 := Tryz.isAgg37
  z31 := Tryz.sizeOf37
  v31 := Tryz.zeroValue37
  t37 := Tryz.underlying22
  a37 := Tryz.isAgg22
  z37 := Tryz.sizeOf22
  v37 := Tryz.zeroValue22
  t70 := Tryz.underlying94
  a70 := Tryz.isAgg94
  z70 := Tryz.sizeOf94
  v70 := Tryz.zeroValue94
  t72 := Tryz.underlying96
  a72 := Tryz.isAgg96
  z72 := Tryz.sizeOf96
  v72 := Tryz.zeroValue96
  t75 := Tryz.underlying99
  a75 := Tryz.isAgg99
  z75 := Tryz.sizeOf99
  v75 := Tryz.zeroValue99
  t76 := Tryz.underlying100
  a76 := Tryz.isAgg100
  z76 := Tryz.sizeOf100
  v76 := Tryz.zeroValue100
  t127 := Tryz.underlying112
  a127 := Tryz.isAgg112
  z127 := Tryz.sizeOf112
  v127 := Tryz.zeroValue112
  t164 := Tryz.underlying126
  a164 := Tryz.isAgg126
  z164 := Tryz.sizeOf126
  v164 := Tryz.zeroValue126 }
theorem Tryz.xJoin : Go.Proofs.Builder.Extra Tryz.prog Tryz.lJoin_ren := {
  sizeBuilder := by kernel_rfl
  liesBuilder := by kernel_rfl
  t5 := Tryz.underlying5
  a5 := Tryz.isAgg5
  z5 := Tryz.sizeOf5
  v5 := Tryz.zeroValue5
  infoByte := by kernel_rfl
  cellsByte := by kernel_rfl
  sizeByte := by kernel_rfl
  neB5 := by decide }

def Tryz.lFormat_ren : Go.Shelf.Ren := ⟨fun | 173 => 43 | 246 => 59 | 283 => 73 | 284 => 74 | 285 => 75 | 286 => 76 | 129 => 89 | 317 => 88 | 318 => 90 | 319 => 91 | 320 => 92 | 337 => 102 | 338 => 103 | n => n, fun | 2 => 2 | 3 => 3 | 9 => 9 | 4 => 4 | 171 => 114 | 0 => 0 | 53 => 26 | 37 => 22 | 5 => 5 | 173 => 117 | 212 => 131 | 51 => 132 | 20 => 20 | 213 => 133 | 46 => 77 | 232 => 145 | 233 => 146 | n => n, fun | 17 => 1 | 18 => 5 | 19 => 6 | n => n⟩
theorem Tryz.lFormat : Go.Proofs.LaysM.n173 Tryz.prog Tryz.lFormat_ren := {
  mixed := by kernel_rfl
  f129 := Tryz.func89.trans (congrArg some (by kernel_rfl))
  f173 := Tryz.func43.trans (congrArg some (by kernel_rfl))
  f246 := Tryz.func59.trans (congrArg some (by kernel_rfl))
  f283 := Tryz.func73.trans (congrArg some (by kernel_rfl))
  f284 := Tryz.func74.trans (congrArg some (by kernel_rfl))
  f285 := Tryz.func75.trans (congrArg some (by kernel_rfl))
  f286 := Tryz.func76.trans (congrArg some (by kernel_rfl))
  f317 := Tryz.func88.trans (congrArg some (by kernel_rfl))
  f318 := Tryz.func90.trans (congrArg some (by kernel_rfl))
  f319 := Tryz.func91.trans (congrArg some (by kernel_rfl))
  f320 := Tryz.func92.trans (congrArg some (by kernel_rfl))
  f337 := Tryz.func102.trans (congrArg some (by kernel_rfl))
  f338 := Tryz.func103.trans (congrArg some (by kernel_rfl))
  t0 := Tryz.underlying0
  a0 := Tryz.isAgg0
  z0 := Tryz.sizeOf0
  v0 := Tryz.zeroValue0
  t2 := Tryz.underlying2
  a2 := Tryz.isAgg2
  z2 := Tryz.sizeOf2
  v2 := Tryz.zeroValue2
  t3 := Tryz.underlying3
  a3 := Tryz.isAgg3
  z3 := Tryz.sizeOf3
  v3 := Tryz.zeroValue3
  t4 := Tryz.underlying4
  a4 := Tryz.isAgg4
  z4 := Tryz.sizeOf4
  v4 := Tryz.zeroValue4
  t5 := Tryz.underlying5
  a5 := Tryz.isAgg5
  z5 := Tryz.sizeOf5
  v5 := Tryz.zeroValue5
  t9 := Tryz.underlying9
  a9 := Tryz.isAgg9
  z9 := Tryz.sizeOf9
  v9 := Tryz.zeroValue9
  t20 := Tryz.underlying20
  a20 := Tryz.isAgg20
  z20 := Tryz.sizeOf20
  v20 := Tryz.zeroValue20
  t37 := Tryz.underlying22
  a37 := Tryz.isAgg22
  z37 := Tryz.sizeOf22
  v37 := Tryz.zeroValue22
  t46 := Tryz.underlying77
  a46 := Tryz.isAgg77
  z46 := Tryz.sizeOf77
  v46 := Tryz.zeroValue77
  t51 := Tryz.underlying132
  a51 := Tryz.isAgg132
  z51 := Tryz.sizeOf132
  v51 := Tryz.zeroValue132
  t53 := Tryz.underlying26
  a53 := Tryz.isAgg26
  z53 := Tryz.sizeOf26
  v53 := Tryz.zeroValue26
  t171 := Tryz.underlying114
  a171 := Tryz.isAgg114
  z171 := Tryz.sizeOf114
  v171 := Tryz.zeroValue114
  t173 := Tryz.underlying117
  a173 := Tryz.isAgg117
  z173 := Tryz.sizeOf117
  v173 := Tryz.zeroValue117
  t212 := Tryz.underlying131
  a212 := Tryz.isAgg131
  z212 := Tryz.sizeOf131
  v212 := Tryz.zeroValue131
  t213 := Tryz.underlying133
  a213 := Tryz.isAgg133
  z213 := Tryz.sizeOf133
  t232 := Tryz.underlying145
  a232 := Tryz.isAgg145
  z232 := Tryz.sizeOf145
  v232 := Tryz.zeroValue145
  t233 := Tryz.underlying146
  a233 := Tryz.isAgg146
  z233 := Tryz.sizeOf146
  v233 := Tryz.zeroValue146
  g17 := by kernel_rfl
  g18 := by kernel_rfl
  g19 := by kernel_rfl
  i0 := by kernel_rfl
  i2 := by kernel_rfl
  i3 := by kernel_rfl
  i4 := by kernel_rfl
  i5 := by kernel_rfl
  i9 := by kernel_rfl
  i20 := by kernel_rfl
  i37 := by kernel_rfl
  i46 := by kernel_rfl
  i51 := by kernel_rfl
  i53 := by kernel_rfl
  i171 := by kernel_rfl
  i173 := by kernel_rfl
  i212 := by kernel_rfl
  i232 := by kernel_rfl
  i233 := by kernel_rfl
  m17 := by kernel_rfl
  m18 := by kernel_rfl
  m19 := by kernel_rfl }
def Tryz.lCutP_ren : Go.Shelf.Ren := ⟨fun | 103 => 24 | 210 => 44 | 206 => 60 | n => n, fun | 9 => 9 | 4 => 4 | 24 => 60 | 3 => 3 | n => n, fun | n => n⟩
theorem Tryz.lCutP : Go.Proofs.Lays.n103 Tryz.prog Tryz.lCutP_ren := {
  mixed := by kernel_rfl
  f103 := Tryz.func24.trans (congrArg some (by kernel_rfl))
  f206 := Tryz.func60.trans (congrArg some (by kernel_rfl))
  f210 := Tryz.func44.trans (congrArg some (by kernel_rfl))
  t3 := Tryz.underlying3
  a3 := Tryz.isAgg3
  z3 := Tryz.sizeOf3
  v3 := Tryz.zeroValue3
  t4 := Tryz.underlying4
  a4 := Tryz.isAgg4
  z4 := Tryz.sizeOf4
  v4 := Tryz.zeroValue4
  t9 := Tryz.underlying9
  a9 := Tryz.isAgg9
  z9 := Tryz.sizeOf9
  v9 := Tryz.zeroValue9
  t24 := Tryz.underlying60
  a24 := Tryz.isAgg60
  z24 := Tryz.sizeOf60
  v24 := Tryz.zeroValue60 }
end Go.Proofs.YtkhkdnmpbfmmeaaGreatDoor
namespace Go.Proofs.YtkhkdnmpbfmmeaaGreatDoor
open Go.RowKit

end Go.Proofs.YtkhkdnmpbfmmeaaGreatDoor
