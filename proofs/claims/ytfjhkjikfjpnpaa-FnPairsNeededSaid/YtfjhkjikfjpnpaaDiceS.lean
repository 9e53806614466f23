/- Sets and pairs by dice: w6Set, w6Pairs; likeInts, w6Has. -/
import Derived.Test.YtfjhkjikfjpnpaaDice
import Derived.Test.YtfjhkjikfjpnpaaApp
import Derived.Test.YtfjhkjikfjpnpaaFn6
import Derived.Test.YtfjhkjikfjpnpaaPairs5
import Derived.Deep.RegionLaw
namespace Go.Proofs.Ytfjhkjikfjpnpaa
open Go.RowKit

theorem setB_snoc {xs : List Int} {k : Int} (h : setB xs k = true) (h0 : 0 ≤ k) : setB (xs ++ [k]) (k + 1) = true := by
  rw [setB_true] at h ⊢
  have get : ∀ j, j < xs.length → gi (xs ++ [k]) j = gi xs j := fun j hj => by unfold gi; rw [List.getD_eq_getElem?_getD, List.getD_eq_getElem?_getD, List.getElem?_append_left hj]
  intro i hi
  rw [List.length_append, List.length_singleton] at hi
  by_cases e : i < xs.length
  · have := h i e
    unfold setAt at *
    rw [get i e]
    refine ⟨this.1, by omega, fun h0 => ?_⟩
    rw [get (i - 1) (by omega)]
    exact this.2.2 h0
  · obtain rfl : i = xs.length := by omega
    unfold setAt
    rw [show gi (xs ++ [k]) xs.length = k by simp [gi]]
    refine ⟨h0, by omega, fun h0 => ?_⟩
    rw [get (xs.length - 1) (by omega)]
    exact (h (xs.length - 1) (by omega)).2.1
theorem setB_wide {xs : List Int} {k m : Int} (h : setB xs k = true) (hm : k ≤ m) : setB xs m = true := by
  rw [setB_true] at h ⊢
  exact fun i hi => ⟨(h i hi).1, by have := (h i hi).2.1; omega, (h i hi).2.2⟩
theorem setB_none (n : Int) : setB [] n = true := setB_true.2 (by simp)

/-- a set by dice -/
def SetBy (w0 w : World) (b : Nat) (n : Int) (e : Ending) (w' : World) : Prop :=
  ∃ v xs, e = .returned v ∧ setB xs n = true ∧ OI 2 w' w.heap.size v xs ∧ DiceAt w0 w' b ∧ Chg (fun y => y = b) w w'
theorem chg_then {b : Nat} {w w1 w2 : World} (h : Chg (fun y => y = b) w w1) (k : Chg (fun y => y = b) w1 w2) : Chg (fun y => y = b) w w2 := h.trans k (fun _ h => h) (fun _ h => h)
theorem chg_app {b lo : Nat} {u : Value} {w w1 w2 : World} (h : Chg (fun y => y = b) w w1) (hlo : w.heap.size ≤ lo) (k : Chg (fun z => u.ownBlock = some z) w1 w2) (hu : ∀ z, u.ownBlock = some z → lo ≤ z) : Chg (fun y => y = b) w w2 :=
  ⟨k.os.trans h.os, k.tape.trans h.tape, k.output.trans h.output, Nat.le_trans h.size k.size, fun x hx hne =>
    (k.block x (Nat.lt_of_lt_of_le hx h.size) (fun hs => by have := hu x hs; omega)).trans (h.block x hx hne)⟩

set_option maxRecDepth 100000 in
set_option maxHeartbeats 400000 in
theorem w6Set (w0 w : World) (b : Nat) (n : Int) (hd : DiceAt w0 w b) (h0 : 0 ≤ n) (hn : n ≤ 256) :
    Calls Try.prog 18 #[.pointer (some ⟨b, 0, none⟩), .int .i64 n] w (SetBy w0 w b n) := by
  obtain ⟨m, rfl⟩ := Int.eq_ofNat_of_zero_le h0
  have hm : m ≤ 256 := by omega
  clear h0 hn
  go_enter Try.func18, Try.ntmps18
  go_wp2
  have hem := OI.empty (E := 2) (w := w) (B := w.heap.size) (Nat.le_refl _)
  have hal : Below w.heap.size w (w.alloc (.cells #[] 2)) := below_alloc (Nat.le_refl _) (Below.refl _ _)
  go_loopw [5, 6] (fun v i wr => ∃ (k : Nat) (xs : List Int), k ≤ m ∧ i = .int .i64 k ∧ xs.length ≤ k ∧ setB xs (k : Int) = true ∧ OI 2 wr w.heap.size v xs ∧ DiceAt w0 wr b ∧ Chg (fun y => y = b) w wr) (fun _ i _ => m - (intOf i).toNat)
  case atStart => exact ⟨0, [], Nat.zero_le _, rfl, Nat.le_refl _, setB_none _, hem, hd.on hal, (Chg.refl _ _).alloc _⟩
  case round =>
    obtain ⟨k, xs, hk, rfl, hxl, hs, ho, hdr, hc⟩ := hrel
    have HS := Lib.hid hs
    have hsz := hc.size
    clear hs
    by_cases hlt : k < m
    · go_wp2_with fail
      refine (below w0 _ b 3 hdr (by omega)).mono ?_; rintro e w1 ⟨x, rfl, hx, hd1, hc1⟩
      have hc2 := chg_then hc hc1
      have ho1 := ho.chg hc1 (fun z hz hs => by have h1 := (ho.lt z hz).1; have h2 := hd.lt; have h3 : z = b := hs; omega)
      have hsz1 := hc2.size
      by_cases h3 : x = 0
      · subst h3
        go_wp2_with (refine wpList_pushI rfl (.tmp 16) (.tmp 18) rfl _ w.heap.size _ xs rfl ho1 _ rfl (by omega) hsz1 ?_; intro v2 w2 ho2 hb2 hch2 hat2)
        go_wp2
        go_roundw
        case rel => exact ⟨k + 1, xs ++ [(k : Int)], by omega, by go_num, by rw [List.length_append, List.length_singleton]; omega, setB_snoc HS.out (by omega), ho2, hd1.chg hch2 (fun z hz => by have h1 := (ho1.lt z hz).1; have h2 := hd.lt; omega), chg_app hc2 (Nat.le_refl _) hch2 (fun z hz => (ho1.lt z hz).1)⟩
        case measure => simp [intOf]; omega
      · have hx3 : (x == 0) = false := by simp [h3]
        clear h3
        go_wp2
        go_roundw
        case rel => exact ⟨k + 1, xs, by omega, by go_num, by omega, setB_wide HS.out (by omega), ho1, hd1, hc2⟩
        case measure => simp [intOf]; omega
    · obtain rfl : k = m := by omega
      go_wp2
      go_ret
      exact ⟨_, xs, rfl, HS.out, ho, hdr, hc⟩
set_option maxHeartbeats 400000 in
theorem likeInts (A B : Option Addr) (n m c d : Nat) (xs ys : List Int) (w : World) (ha : RI w A n c xs) (hb : RI w B m d ys) :
    Calls Try.prog 22 #[.slice A n c, .slice B m d] w fun e w' => e = .returned (.bool (eqL xs ys)) ∧ Qt w w' := by
  have b1 := ha.cap; have b2 := ha.top; have b3 := hb.cap; have b4 := hb.top
  by_cases hnm : n = m
  · subst hnm
    have hnn : ((n : Int) != (n : Int)) = false := by simp
    go_enter Try.func22, Try.ntmps22
    go_wp2
    go_loopw [5] (fun i wr => ∃ k : Nat, k ≤ n ∧ i = .int .i64 k ∧ (∀ j, j < k → gi xs j = gi ys j) ∧ ∃ q, wr = w.drewN q) (fun i _ => n - (intOf i).toNat)
    case atStart => exact ⟨0, Nat.zero_le _, rfl, by omega, 0, rfl⟩
    case round =>
      obtain ⟨k, hk, rfl, hall, q, rfl⟩ := hrel
      by_cases hlt : k < n
      · obtain ⟨b, off, rfl, hc1⟩ := ha.at_ hlt
        obtain ⟨b', off', rfl, hc2⟩ := hb.at_ hlt
        have hki : (k : Int) < (n : Int) := by omega
        have hk0 : (0 : Int) ≤ (k : Int) := by omega
        by_cases he : gi xs k = gi ys k
        · have H := Lib.hid he
          have hne : (gi xs k != gi ys k) = false := by simp [he]
          clear he
          go_wp2
          go_quiet (fail)
          go_wp2
          go_roundw
          case rel => exact ⟨k + 1, by omega, by go_num, all_succ hall H.out, _, rfl⟩
          case measure => simp [intOf]; omega
        · have H := Lib.hid he
          have hne : (gi xs k != gi ys k) = true := by simp [he]
          clear he
          go_wp2
          go_quiet (fail)
          go_wp2
          go_ret
          exact ⟨ret_b (eqL_ne H.out).symm, Qt.drew2 _ _⟩
      · go_wp2
        go_ret
        obtain rfl : k = n := by omega
        exact ⟨ret_b (eqL_of ha.1 hb.1 hall).symm, _, rfl⟩
  · have hnn : ((n : Int) != (m : Int)) = true := by simp; omega
    have H := Lib.hid hnm
    clear hnm
    go_enter Try.func22, Try.ntmps22
    go_wp2
    go_ret
    exact ⟨ret_b (eqL_len (by rw [ha.1, hb.1]; exact H.out)).symm, Qt.refl _⟩


theorem w6Has (A : Option Addr) (n c : Nat) (xs : List Int) (x : Int) (w : World) (ha : RI w A n c xs) :
    Calls Try.prog 41 #[.slice A n c, .int .i64 x] w fun e w' => e = .returned (.bool (hasL xs x)) ∧ Qt w w' := by
  have b1 := ha.cap; have b2 := ha.top
  go_enter Try.func41, Try.ntmps41
  go_wp2
  go_loop [5] (fun i => ∃ k : Nat, k ≤ n ∧ i = .int .i64 k ∧ (∀ j, j < k → gi xs j ≠ x)) (fun i => n - (intOf i).toNat)
  case atStart => exact ⟨0, Nat.zero_le _, rfl, by omega⟩
  case round =>
    obtain ⟨k, hk, rfl, hall⟩ := hrel
    by_cases hlt : k < n
    · obtain ⟨b, off, rfl, hc1⟩ := ha.at_ hlt
      by_cases he : gi xs k = x
      · have H := Lib.hid he
        have hne : (gi xs k == x) = true := by simp [he]
        clear he
        go_wp2
        go_ret
        exact ⟨ret_b (hasL_of ha.1 hlt H.out).symm, Qt.refl _⟩
      · have H := Lib.hid he
        have hne : (gi xs k == x) = false := by simp [he]
        clear he
        go_wp2
        go_round
        case rel => exact ⟨k + 1, by omega, by go_num, all_succ hall H.out⟩
        case measure => simp [intOf]; omega
    · go_wp2
      go_ret
      obtain rfl : k = n := by omega
      exact ⟨ret_b (hasL_no ha.1 hall).symm, Qt.refl _⟩

/-- as wp_pushP, where old memory below lo may have turned -/
theorem OPS.chg {S : Nat → Prop} {w w' : World} {lo : Nat} {v : Value} {ps : List PairD} (h : OPS w lo v ps) (hc : Chg S w w') (hS : ∀ b, S b → b < lo) : OPS w' lo v ps := by
  obtain ⟨cs, h1, h2, h3⟩ := h
  exact ⟨cs, row_chg h1 hc fun b hb hs => by have := (World.ownsRow.lt h1 b hb).1; have := hS b hs; omega, h2.chg hc hS, h3⟩
set_option maxRecDepth 100000 in
theorem wpList_pushP2 {ops : Array Oper} {rest : List Oper} {o : Oper} {a : Act} {Q : Exit → Act → World → Prop} (hgd : o.guard = none) (s x : Operand)
    (ho : o.op = .call { callee := .builtin .append, args := #[s, x], argTypes := #[27, 27] })
    (W w : World) (lo : Nat) (v : Value) (ps : List PairD) (u1 u2 : Value) (xs ys : List Int) (hs : a.eval s = v) (hx : a.eval x = .slice (some ⟨w.heap.size, 0, none⟩) 1 1)
    (hlo : lo ≤ W.heap.size) (hown : OPS W lo v ps) (hW : Chg (fun b => b < lo) W w) (h1 : OI 2 w W.heap.size u1 xs) (h2 : OI 2 w W.heap.size u2 ys) (hap : Apart u1 u2) (hn : ps.length ≤ 1048576)
    (h : ∀ v' w', OPS w' lo v' (ps ++ [(xs, ys)]) → Below lo w w' → Chg (fun b => v.ownBlock = some b) w w' → wpList Try.prog ops Q rest (a.put o.dst v') w') : wpList Try.prog ops Q (o :: rest) a (w.alloc (.cells #[u1, u2] 92)) := by
  refine wpList_plain hgd fun K hK => ?_
  replace h := fun v' w' h1 h2 h3 => hK _ _ (h v' w' h1 h2 h3)
  obtain ⟨i1, hi1, hy0, hy1, hy2⟩ := info_parts infoPair
  obtain ⟨cs, r0, l0, hd⟩ := hown
  obtain ⟨Au, cu, rfl⟩ := h1.form
  obtain ⟨Av, cv, rfl⟩ := h2.form
  have hba : Below w.heap.size w (w.alloc (.cells #[.slice Au xs.length cu, .slice Av ys.length cv] 92)) := below_alloc (Nat.le_refl _) (Below.refl _ _)
  have k1 := row_below (row_chg r0 hW (fun b hb hs => by have := (World.ownsRow.lt r0 b hb).1; omega)) hba
  have k2 := (l0.chg hW (fun _ h => h)).below hba
  have ku := h1.below hba
  have kv := h2.below hba
  have hws := hW.size
  have hsz : lo ≤ (w.alloc (.cells #[.slice Au xs.length cu, .slice Av ys.length cv] 92)).heap.size := by simp; omega
  refine wp_append_lies _ s x 27 ho lo 92 i1 (.agg #[.slice none 0 0, .slice none 0 0]) 2 48 Try.underlying27 hi1 hy0 hy1 hy2 rfl (by decide) v ps.length cs hs k1 ⟨w.heap.size, 0, none⟩ 1 1 [.slice Au xs.length cu, .slice Av ys.length cv] hx rfl
    (fun j y hj => by
      match j, hj with
      | 0, hj => simp at hj; subst hj; simp [Addr.add]
      | 1, hj => simp at hj; subst hj; simp [Addr.add]) (by simp [Value.oneCell']) (by decide) (by unfold maxLen; omega) (by omega) hsz _ rfl ?_
  intro g cap w' r hg hat hlt
  have hc := Chg.of_grown hg
  have n2 : OL 2 w' lo cs (fl ps) := fun i hi => (k2 i hi).chg hc (fun b hb hs => own_ne (k2 i hi) k1 (by decide) b hb hs)
  have nu := ku.chg hc (fun b hb hs => own_ne ku k1 (by decide) b hb hs)
  have nv := kv.chg hc (fun b hb hs => own_ne kv k1 (by decide) b hb hs)
  have hcl := row_len k1
  have old1 : ∀ i, i < cs.length → Apart (gv cs i) (.slice Au xs.length cu) := fun i hi => apart_sep (fun b hb => (l0.lt i hi b hb).2) (fun b hb => (h1.lt b hb).1)
  have old2 : ∀ i, i < cs.length → Apart (gv cs i) (.slice Av ys.length cv) := fun i hi => apart_sep (fun b hb => (l0.lt i hi b hb).2) (fun b hb => (h2.lt b hb).1)
  refine h _ w' ⟨cs ++ [.slice Au xs.length cu, .slice Av ys.length cv], ?_, ?_, ?_⟩ ((hba.mono (Nat.le_trans hlo hws)).trans (hc.below hsz (fun b hb => (World.ownsRow.lt k1 b hb).1))) (((Chg.refl (fun _ => False) w).alloc _).trans hc (fun _ h => h.elim) (fun _ h => h))
  · simpa using r
  · intro i hi
    simp only [List.length_append, List.length_cons, List.length_nil] at hi
    rw [gv_app2]
    by_cases e : i < cs.length
    · rw [if_pos e, fl_app (by omega)]
      exact n2 i e
    · rw [if_neg e]
      by_cases e1 : i = cs.length
      · rw [if_pos e1, e1, hcl, fl_app0]
        exact nu.more hlo
      · rw [if_neg e1, if_pos (by omega), show i = ps.length * 2 + 1 from by omega, fl_app1]
        exact nv.more hlo
  · intro i j hi hj hne
    simp only [List.length_append, List.length_cons, List.length_nil] at hi hj
    rw [gv_app2, gv_app2]
    by_cases e : i < cs.length
    · rw [if_pos e]
      by_cases f : j < cs.length
      · rw [if_pos f]; exact hd i j e f hne
      · rw [if_neg f]
        by_cases f1 : j = cs.length
        · rw [if_pos f1]; exact old1 i e
        · rw [if_neg f1, if_pos (by omega)]; exact old2 i e
    · rw [if_neg e]
      by_cases e1 : i = cs.length
      · rw [if_pos e1]
        by_cases f : j < cs.length
        · rw [if_pos f]; exact (old1 j f).symm
        · rw [if_neg f, if_neg (by omega), if_pos (by omega)]; exact hap
      · rw [if_neg e1, if_pos (by omega)]
        by_cases f : j < cs.length
        · rw [if_pos f]; exact (old2 j f).symm
        · rw [if_neg f, if_pos (by omega)]; exact hap.symm

/-- pairs by dice -/
def PairsBy (w0 w : World) (b : Nat) (n most : Int) (e : Ending) (w' : World) : Prop :=
  ∃ v ps, e = .returned v ∧ ((ps.length : Int) ≤ most ∧ ∀ i, i < ps.length → setB (gp ps i).1 n = true ∧ setB (gp ps i).2 n = true) ∧ OPS w' w.heap.size v ps ∧ DiceAt w0 w' b ∧ Chg (fun y => y = b) w w'
set_option maxRecDepth 100000 in
set_option maxHeartbeats 400000 in
theorem w6Pairs (w0 w : World) (b : Nat) (n most : Int) (hd : DiceAt w0 w b) (h0 : 0 ≤ n) (hn : n ≤ 256) (hm0 : 0 ≤ most) (hm : most ≤ 100) :
    Calls Try.prog 17 #[.pointer (some ⟨b, 0, none⟩), .int .i64 n, .int .i64 most] w (PairsBy w0 w b n most) := by
  have hdl := hd.lt
  have hem := OPS.empty (w := w) (B := w.heap.size) (Nat.le_refl _)
  have hal : Below w.heap.size w (w.alloc (.cells #[] 92)) := below_alloc (Nat.le_refl _) (Below.refl _ _)
  go_enter Try.func17, Try.ntmps17
  go_wp2_with fail
  refine (below w0 _ b (most + 1) (hd.on hal) (by omega)).mono ?_; rintro e w1 ⟨x, rfl, hx, hd1, hc1⟩
  have hca : Chg (fun y => y = b) w w1 := chg_then ((Chg.refl _ _).alloc _) hc1
  have ho1 := hem.chg hc1 (fun z hz => by have h3 : z = b := hz; omega)
  obtain ⟨x', rfl⟩ := Int.eq_ofNat_of_zero_le hx.1
  have hxm : (x' : Int) ≤ most := by omega
  go_wp2
  go_loopw [7, 8] (fun v i wr => ∃ (k : Nat) (ps : List PairD), k ≤ x' ∧ i = .int .i64 k ∧ ps.length + k ≤ x' ∧ (∀ i, i < ps.length → setB (gp ps i).1 n = true ∧ setB (gp ps i).2 n = true) ∧ OPS wr w.heap.size v ps ∧ DiceAt w0 wr b ∧ Chg (fun y => y = b) w wr) (fun _ i _ => (intOf i).toNat)
  case atStart => exact ⟨x', [], Nat.le_refl _, rfl, by simp, fun i hi => absurd hi (by simp), ho1, hd1, hca⟩
  case round =>
    obtain ⟨k, ps, hk, rfl, hl, hs, ho, hdr, hc⟩ := hrel
    have HS := Lib.hid hs
    have hsz := hc.size
    clear hs
    by_cases hlt : 0 < k
    · go_wp2_with fail
      refine (w6Set w0 _ b n hdr h0 hn).mono ?_; rintro e w2 ⟨v1, xs, rfl, hsx, ho2, hd2, hc2⟩
      obtain ⟨Au, cu, rfl⟩ := ho2.form
      have HX := Lib.hid hsx
      clear hsx
      go_wp2_with fail
      refine (w6Set w0 _ b n hd2 h0 hn).mono ?_; rintro e w3 ⟨v2, ys, rfl, hsy, ho3, hd3, hc3⟩
      obtain ⟨Av, cv, rfl⟩ := ho3.form
      have HY := Lib.hid hsy
      clear hsy
      have hs2 := hc2.size; have hs3 := hc3.size
      have hap := apart_lt ho2 ho3 (Nat.le_refl _)
      have ho2' := ho2.chg hc3 (fun z hz hs => by have h1 := (ho2.lt z hz).1; have h3 : z = b := hs; omega)
      have hW := (chg_then hc2 hc3).mono (T := fun z => z < w.heap.size) (fun z hz => by have h3 : z = b := hz; omega)
      go_wp2_with (at_builtin; refine wpList_pushP2 rfl (.tmp 18) (.tmp 26) rfl wr _ w.heap.size _ ps _ _ xs ys rfl rfl hsz ho hW ho2' (ho3.more (by omega)) hap (by omega) ?_; intro v4 w4 ho4 hb4 hch4)
      go_wp2
      go_roundw
      case rel =>
        refine ⟨k - 1, ps ++ [(xs, ys)], by omega, ?_, by rw [List.length_append, List.length_singleton]; omega, ?_, ho4, hd3.chg hch4 (fun z hz => by have := (ho.lt z hz).1; omega), chg_app (chg_then hc (chg_then hc2 hc3)) (Nat.le_refl _) hch4 (fun z hz => (ho.lt z hz).1)⟩
        · rw [show ((k - 1 : Nat) : Int) = (k : Int) - 1 by omega]
        · intro i hi
          rw [List.length_append, List.length_singleton] at hi
          by_cases e : i < ps.length
          · rw [gp_app_lt e]; exact HS.out i e
          · obtain rfl : i = ps.length := by omega
            rw [gp_app_eq]; exact ⟨HX.out, HY.out⟩
      case measure => simp [intOf]; omega
    · obtain rfl : k = 0 := by omega
      go_wp2
      go_ret
      exact ⟨_, ps, rfl, ⟨by omega, HS.out⟩, ho, hdr, hc⟩
end Go.Proofs.Ytfjhkjikfjpnpaa
