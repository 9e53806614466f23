/- Copies: append of a row to a slice of slices; l1Copy, copyLists, copyArena, l1CopyArena. copyArena. -/
import Derived.Test.YtngadlpfheakiaaArenaL
import Derived.Test.YtngadlpfheakiaaApp
import Derived.Deep.RegionHeld3
import Derived.Deep.RegionLaw
import Derived.Test.YtngadlpfheakiaaMarks
namespace Go.Proofs.Ytngadlpfheakiaa
open Go.RowKit

set_option maxRecDepth 100000 in
/-- append of one row of the call's own to the slices of an arena of its own -/
theorem wp_pushN {o : Oper} {a : Act} {K : Act → World → Prop} {Q : Exit → Act → World → Prop} (s x : Operand)
    (ho : o.op = .call { callee := .builtin .append, args := #[s, x], argTypes := #[28, 28] })
    (W w : World) (lo : Nat) (s0 s1 : Value) (z : ArD) (u : Value) (ys : List Int) (hs : a.eval s = s1) (hx : a.eval x = .slice (some ⟨w.heap.size, 0, none⟩) 1 1)
    (hlo : lo ≤ W.heap.size) (hown : OArn W lo s0 s1 z) (hW : Below W.heap.size W w) (hu : OI 2 w W.heap.size u ys) (hn : z.2.length ≤ 4194304)
    (h : ∀ t1 w', OArn w' lo s0 t1 (z.1, z.2 ++ [ys]) → Below lo w w' → Chg (fun b => s1.ownBlock = some b) w w' → (∀ b, t1.ownBlock = some b → s1.ownBlock = some b ∨ w.heap.size ≤ b) → K (a.put o.dst t1) w') : o.wp Try.prog a (w.alloc (.cells #[u] 27)) K Q := by
  obtain ⟨i1, hi1, hy0, hy1, hy2⟩ := info_parts infoII
  obtain ⟨cs, ⟨h0, h1, h2⟩, hd⟩ := hown
  obtain ⟨Au, cu, rfl⟩ := hu.form
  have hba : Below w.heap.size w (w.alloc (.cells #[.slice Au ys.length cu] 27)) := below_alloc (Nat.le_refl _) (Below.refl _ _)
  have k0 := (h0.below hW).below hba
  have k1 := row_below (row_below h1 hW) hba
  have k2 := (h2.below hW).below hba
  have ku := hu.below hba
  have hws := hW.size
  have hsz : lo ≤ (w.alloc (.cells #[.slice Au ys.length cu] 27)).heap.size := by simp; omega
  refine wp_append_lies _ s x 28 ho lo 27 i1 (.slice none 0 0) 1 24 Try.underlying28 hi1 hy0 hy1 hy2 rfl (by decide) s1 z.2.length cs hs k1 ⟨w.heap.size, 0, none⟩ 1 1 [.slice Au ys.length cu] hx rfl
    (push_news ((Box.new w 27 #[.slice Au ys.length cu]).cell 0)) (by simp [Value.oneCell']) (by decide) (by unfold maxLen; omega) (by omega) hsz _ rfl ?_
  intro g cap w' r hg hat hlt
  have hc := Chg.of_grown hg
  have hc' : Chg (fun b => s1.ownBlock = some b) w w' := ((Chg.refl (fun _ => False) w).alloc _).trans hc (fun _ h => h.elim) (fun _ h => h)
  have n0 := k0.chg hc (fun b hb hs => own_ne k0 k1 (by decide) b hb hs)
  have n2 : OL 2 w' lo cs (gl z.2) := fun i hi => (k2 i hi).chg hc (fun b hb hs => own_ne (k2 i hi) k1 (by decide) b hb hs)
  have nu := ku.chg hc (fun b hb hs => own_ne ku k1 (by decide) b hb hs)
  refine h _ w' ⟨cs ++ [.slice Au ys.length cu], ⟨n0, ?_, n2.app (nu.more hlo) (by have := row_len k1; omega)⟩, ?_⟩ ((hba.mono (Nat.le_trans hlo hws)).trans (hc.below hsz (fun b hb => (World.ownsRow.lt k1 b hb).1))) hc' ?_
  · simpa using r
  · refine Dis.cons (hd.tail.app (fun i hi => apart_sep (fun b hb => (h2.lt i hi b hb).2) (fun b hb => (hu.lt b hb).1))) (fun i hi => ?_)
    rw [List.length_append, List.length_singleton] at hi
    by_cases e : i < cs.length
    · rw [gv_app_lt e]; exact hd.head e
    · obtain rfl : i = cs.length := by omega
      rw [gv_app_eq]
      exact apart_sep (fun b hb => (h0.lt b hb).2) (fun b hb => (hu.lt b hb).1)
  · intro b hb
    simp [Value.ownBlock] at hb
    subst hb
    rcases hat with h | h
    · exact .inl h
    · right; simp at h; omega
theorem wpList_pushN {ops : Array Oper} {rest : List Oper} {o : Oper} {a : Act} {Q : Exit → Act → World → Prop} (hgd : o.guard = none) (s x : Operand)
    (ho : o.op = .call { callee := .builtin .append, args := #[s, x], argTypes := #[28, 28] })
    (W w : World) (lo : Nat) (s0 s1 : Value) (z : ArD) (u : Value) (ys : List Int) (hs : a.eval s = s1) (hx : a.eval x = .slice (some ⟨w.heap.size, 0, none⟩) 1 1)
    (hlo : lo ≤ W.heap.size) (hown : OArn W lo s0 s1 z) (hW : Below W.heap.size W w) (hu : OI 2 w W.heap.size u ys) (hn : z.2.length ≤ 4194304)
    (h : ∀ t1 w', OArn w' lo s0 t1 (z.1, z.2 ++ [ys]) → Below lo w w' → Chg (fun b => s1.ownBlock = some b) w w' → (∀ b, t1.ownBlock = some b → s1.ownBlock = some b ∨ w.heap.size ≤ b) → wpList Try.prog ops Q rest (a.put o.dst t1) w') : wpList Try.prog ops Q (o :: rest) a (w.alloc (.cells #[u] 27)) :=
  wpList_plain hgd fun _ hK => wp_pushN s x ho W w lo s0 s1 z u ys hs hx hlo hown hW hu hn fun t1 w' h1 h2 h3 h4 => hK _ _ (h t1 w' h1 h2 h3 h4)
theorem OArn.nil (w : World) (lo : Nat) : OArn w lo (.slice none 0 0) (.slice none 0 0) ([], []) :=
  ⟨[], ⟨OI.nil _ _ _, World.ownsRow_nil w lo 27 1, fun i hi => absurd hi (by simp)⟩, fun i j hi hj hne => by simp at hi hj; omega⟩
theorem OArn.emptyN {w : World} {B : Nat} (hB : B ≤ w.heap.size) : OArn (w.alloc (.cells #[] 27)) B (.slice none 0 0) (.slice (some ⟨w.heap.size, 0, none⟩) 0 0) ([], []) :=
  ⟨[], ⟨OI.nil _ _ _, World.ownsRow_lit w #[] 0 hB (by decide) rfl, fun i hi => absurd hi (by simp)⟩, fun i j hi hj hne => by simp at hi hj; omega⟩

set_option maxRecDepth 100000 in
theorem l1Copy (A : Option Addr) (n c : Nat) (xs : List Int) (w : World) (B : Nat) (hB : B ≤ w.heap.size) (ha : RI w A n c xs) (hn : n ≤ 1048576) :
    Calls Try.prog 97 #[.slice A n c] w fun e w' => ∃ v, e = .returned v ∧ OI 2 w' B v xs ∧ Below B w w' := by
  have hba : Below w.heap.size w (w.alloc (.cells #[] 2)) := below_alloc (Nat.le_refl _) (Below.refl _ _)
  have hem := OI.empty (E := 2) (w := w) (B := w.heap.size) (Nat.le_refl _)
  go_enter Try.func97, Try.ntmps97
  go_wp2_with (refine wpList_appI rfl (.tmp 3) (.tmp 4) rfl _ w.heap.size _ [] rfl hem _ _ _ xs rfl (ha.keep (keeps_below hba)) (by simp) (by omega) (by simp) ?_; intro v1 w1 ho1 hb1 hc1 hat1)
  go_ret
  exact ⟨_, rfl, by simpa using ho1.more hB, (hba.trans hb1).mono hB⟩

set_option maxRecDepth 100000 in
set_option maxHeartbeats 400000 in
theorem copyLists (A : Option Addr) (n c : Nat) (xs : List (List Int)) (w : World) (B : Nat) (hB : B ≤ w.heap.size) (ha : RII w A n c xs) (hn : n ≤ 1048576) (hl : ∀ i, i < n → (gl xs i).length ≤ 1048576) :
    Calls Try.prog 141 #[.slice A n c] w fun e w' => ∃ v, e = .returned v ∧ OArn w' B (.slice none 0 0) v ([], xs) ∧ Below B w w' := by
  have b1 := ha.cap; have b2 := ha.top
  have HL := Lib.hid ha.len
  have HS := Lib.hid hl
  clear hl
  go_enter Try.func141, Try.ntmps141
  go_wp2
  go_loopw [3, 9] (fun v i wr => ∃ (k : Nat) (L : List (List Int)), k ≤ n ∧ i = .int .i64 k ∧ L = xs.take k ∧ OArn wr w.heap.size (.slice none 0 0) v ([], L) ∧ Below w.heap.size w wr) (fun _ i _ => n - (intOf i).toNat)
  case atStart => exact ⟨0, [], Nat.zero_le _, rfl, rfl, OArn.emptyN (Nat.le_refl _), by repeat (first | with_reducible assumption | with_reducible exact Below.refl _ _ | with_reducible refine below_drewN ?_ _ | with_reducible refine Below.drew ?_ | with_reducible refine below_alloc (Nat.le_refl _) ?_)⟩
  case round =>
    obtain ⟨k, L, hk, rfl, hLk, ho, hbr⟩ := hrel
    have HLk := Lib.hid hLk
    have hlen : L.length ≤ 4194304 := by rw [hLk, List.length_take, HL.out]; omega
    clear hLk
    obtain ⟨A0, c0, Av, cv, h0e, rfl⟩ := ho.form
    clear h0e
    have hsz := hbr.size
    by_cases hlt : k < n
    · obtain ⟨bb, off, A1, n1, c1, rfl, hc, r1⟩ := (ha.keep (keeps_below hbr)).at_ hlt
      have hl1 : n1 ≤ 1048576 := by have := HS.out k hlt; rw [r1.len] at this; exact this
      have hX := Lib.hid (take_gl (xs := xs) (k := k) (by rw [HL.out]; exact hlt))
      have hba : Below wr.heap.size wr (wr.alloc (.cells #[] 2)) := below_alloc (Nat.le_refl _) (Below.refl _ _)
      have hem := OI.empty (E := 2) (w := wr) (B := wr.heap.size) (Nat.le_refl _)
      go_wp2_with (first
        | (refine wpList_appI rfl (.tmp 14) (.tmp 15) rfl _ wr.heap.size _ [] rfl hem _ _ _ (gl xs k) rfl (r1.keep (keeps_below hba)) (by simp) (by omega) (by simp) ?_; intro v1 w1 ho1 hb1 hc1 hat1; have hw1 := hba.trans hb1; try rw [List.nil_append] at ho1; obtain ⟨Aw, cw, rfl⟩ := ho1.form)
        | (refine wpList_pushN rfl (.tmp 13) (.tmp 17) rfl wr w1 w.heap.size (.slice none 0 0) (.slice Av L.length cv) ([], L) (.slice Aw (gl xs k).length cw) (gl xs k) rfl rfl hsz ho hw1 ho1 hlen ?_; intro v2 w2 ho2 hb2 hc2 hat2))
      go_roundw
      case rel => exact ⟨k + 1, _, by omega, by go_num, by rw [hX.out, ← HLk.out], ho2, hbr.trans ((hw1.mono hsz).trans hb2)⟩
      case measure => simp [intOf]; omega
    · obtain rfl : k = n := by omega
      have HE := Lib.hid (show xs.take k = xs from List.take_of_length_le (by rw [HL.out]; omega))
      go_wp2
      go_ret
      exact ⟨_, rfl, by rw [← HE.out, ← HLk.out]; exact ho.more hB, hbr.mono hB⟩
end Go.Proofs.Ytngadlpfheakiaa
namespace Go.Proofs.Ytngadlpfheakiaa
open Go.RowKit

theorem OArn.join {wC wF : World} {lo loC : Nat} {v1 v2 : Value} {o : List Int} {n : List (List Int)} (h : OArn wC loC (.slice none 0 0) v2 ([], n)) (f : Far loC wC wF) (h1 : OI 2 wF lo v1 o) (hlo : lo ≤ loC) (hap : ∀ b, v1.ownBlock = some b → b < loC ∨ wC.heap.size ≤ b) : OArn wF lo v1 v2 (o, n) := by
  obtain ⟨cs, ⟨_, h3, h4⟩, hd⟩ := h
  have h4' := h4.hold f
  refine ⟨cs, ⟨h1, row_more (row_hold h3 f) hlo, h4'.more hlo⟩, Dis.cons hd.tail (fun i hi => ?_)⟩
  unfold Apart
  cases e : v1.ownBlock with
  | none => exact .inl rfl
  | some b =>
    right
    intro e2
    have := (h4.lt i hi b e2.symm)
    have := hap b e
    omega

theorem OArn.chg {S : Nat → Prop} {w w' : World} {lo : Nat} {s0 s1 : Value} {z : ArD} (h : OArn w lo s0 s1 z) (hc : Chg S w w') (hS : ∀ b, S b → b < lo) : OArn w' lo s0 s1 z := by
  obtain ⟨cs, h1, h2⟩ := h
  exact ⟨cs, h1.chg hc hS, h2⟩
set_option maxRecDepth 100000 in
set_option maxHeartbeats 1600000 in
theorem copyArena (s0 s1 : Value) (z : ArD) (w : World) (B : Nat) (hB : B ≤ w.heap.size) (ha : RAv w s0 s1 z.1 z.2) (hf : fineAr z.1 z.2) :
    Calls Try.prog 102 #[.agg #[s0, s1]] w fun e w' => ∃ t0 t1, e = .returned (.agg #[t0, t1]) ∧ OArn w' B t0 t1 z ∧ Below B w w' := by
  obtain ⟨A0, n0, c0, A1, n1, c1, rfl, rfl⟩ := ha.form
  have hr := ha.ri; have hrr := ha.rii
  have HL := Lib.hid hr.len; have HM := Lib.hid hrr.len
  have hn0 : n0 ≤ 1048576 := by have := hf.2.1; rw [HL.out] at this; omega
  have hn1 : n1 ≤ 1048576 := by have := hf.2.2.1; rw [HM.out, HL.out] at this; omega
  have hle : ∀ i, i < n1 → (gl z.2 i).length ≤ 1048576 := fun i hi => by
    have h3 := hf.2.2.1
    have := (hf.2.2.2 i (by rw [← h3, HM.out]; exact hi)).2.1.2
    omega
  have HLE := Lib.hid hle
  clear hle hf
  have hwL : Below w.heap.size w ((w.alloc (.cells #[.slice A0 n0 c0, .slice A1 n1 c1] 30)).alloc (.cells #[.slice none 0 0, .slice none 0 0] 30)) := below_alloc (Nat.le_refl _) (below_alloc (Nat.le_refl _) (Below.refl _ _))
  have bxL := (Box.new w 30 #[.slice A0 n0 c0, .slice A1 n1 c1]).alloc (.cells #[.slice none 0 0, .slice none 0 0] 30)
  have brL : Box ((w.alloc (.cells #[.slice A0 n0 c0, .slice A1 n1 c1] 30)).alloc (.cells #[.slice none 0 0, .slice none 0 0] 30)) (w.heap.size + 1) 30 #[.slice none 0 0, .slice none 0 0] := Box.new' (by simp)
  have hsL : w.heap.size + 2 ≤ ((w.alloc (.cells #[.slice A0 n0 c0, .slice A1 n1 c1] 30)).alloc (.cells #[.slice none 0 0, .slice none 0 0] 30)).heap.size := by simp
  have q0 := bxL.d0; have q1 := bxL.d1
  go_enter Try.func102, Try.ntmps102
  go_wp2_with fail
  generalize ((w.alloc (.cells #[.slice A0 n0 c0, .slice A1 n1 c1] 30)).alloc (.cells #[.slice none 0 0, .slice none 0 0] 30)) = W at *
  go_region_held3 (fun w' => w'.cell? ⟨w.heap.size, 0, none⟩ = some (.slice A0 n0 c0) ∧ w'.cell? ⟨w.heap.size, 1, none⟩ = some (.slice A1 n1 c1))
    (first | ((refine ⟨?_, ?_⟩ <;> repeat (first | with_reducible assumption | with_reducible refine keepD ?_ | with_reducible refine keepA ?_)); done) | ((refine ⟨?_, ?_⟩ <;> simp [World.cell?_setCell_other, q0, q1]); done))
    (first
      | (refine step_of_list (by rfl) (wp_appI (.tmp 3) (.tmp 5) (by rfl) _ (w.heap.size + 2) _ [] (by rfl) (by first | exact OI.empty (by first | omega | (simp; omega)) | exact (OI.empty (by first | omega | (simp; omega))).below hbC) _ _ _ z.1 (by rfl) (hr.keep (keeps_below (by repeat (first | with_reducible exact hwL | with_reducible refine Below.drew ?_ | with_reducible refine below_alloc (Nat.le_refl _) ?_)))) (by simp) (by omega) (by first | omega | (simp; omega)) ?_)
         intro v1 w1 ho1 hb1 hc1 hat1
         try rw [List.nil_append] at ho1
         obtain ⟨Av1, cv1, rfl⟩ := ho1.form
         replace bxL := Box.below (w' := w1) (b := w.heap.size) (t := 30) (cs := #[.slice A0 n0 c0, .slice A1 n1 c1]) (by repeat (first | with_reducible exact bxL | with_reducible refine Box.alloc ?_ _ | with_reducible refine Box.drew ?_)) hb1 (by omega)
         replace hwL : Below w.heap.size w w1 := (show Below w.heap.size w _ by repeat (first | with_reducible exact hwL | with_reducible refine Below.drew ?_ | with_reducible refine below_alloc (Nat.le_refl _) ?_)).trans (hb1.mono (by omega))
         have hs1 := hb1.size
         replace hsL : w.heap.size + 2 ≤ w1.heap.size := by first | omega | (simp at hs1; omega)
         have hk1 := hsL
         replace brL := Box.below (w' := w1) (b := w.heap.size + 1) (t := 30) (cs := #[.slice none 0 0, .slice none 0 0]) (by repeat (first | with_reducible exact brL | with_reducible refine Box.alloc ?_ _ | with_reducible refine Box.drew ?_)) hb1 (by omega)
         have q0 := bxL.d0
         have q1 := bxL.d1
         have f0 := brL.hot 0
         have f1 := brL.hot 1
         have p0 := brL.d0
         have p1 := brL.d1)
      | (go_at_call 141
         refine (copyLists _ _ _ z.2 _ _ (Nat.le_refl _) (hrr.keep (keeps_below (by repeat (first | with_reducible exact hwL | with_reducible refine Below.drew ?_ | with_reducible refine below_alloc (Nat.le_refl _) ?_)))) hn1 HLE.out).mono ?_
         rintro e wC ⟨v2, rfl, hoC, hbC⟩
         obtain ⟨_, _, Av2, cv2, h0e, rfl⟩ := hoC.form
         clear h0e
         replace hwL : Below w.heap.size w wC := below_then hbC (by first | omega | (simp; omega)) (by repeat (first | with_reducible exact hwL | with_reducible refine Below.drew ?_ | with_reducible refine below_alloc (Nat.le_refl _) ?_))
         replace bxL := Box.below (w' := wC) (b := w.heap.size) (t := 30) (cs := #[.slice A0 n0 c0, .slice A1 n1 c1]) (by repeat (first | with_reducible exact bxL | with_reducible refine Box.alloc ?_ _ | with_reducible refine Box.drew ?_)) hbC (by first | omega | (simp; omega))
         replace brL := Box.below (w' := wC) (b := w.heap.size + 1) (t := 30) (cs := #[.slice none 0 0, .slice none 0 0]) (by repeat (first | with_reducible exact brL | with_reducible refine Box.alloc ?_ _ | with_reducible refine Box.drew ?_)) hbC (by first | omega | (simp; omega))
         have hsC := hbC.size
         replace hsL : w.heap.size + 2 ≤ wC.heap.size := by first | omega | (simp at hsC; omega)
         have q0 := bxL.d0
         have q1 := bxL.d1
         have f0 := brL.hot 0
         have f1 := brL.hot 1
         have p0 := brL.d0
         have p1 := brL.d1))
  all_goals
    first
      | (have fo : OArn w1 (w.heap.size + 2) (.slice Av1 z.1.length cv1) (.slice Av2 z.2.length cv2) (z.1, z.2) := OArn.join hoC (hc1.mono (fun b hb => by simp [Value.ownBlock] at hb; subst hb; simp)) ho1 (by simp; omega) (fun b hb => by rcases hat1 b hb with h | h; (left; simp [Value.ownBlock] at h; subst h; simp); exact .inr h)
         have ch : Chg (fun b => b = w.heap.size + 1) w1 ((w1.setCell ⟨w.heap.size + 1, 0, none⟩ (.slice Av1 z.1.length cv1)).setCell ⟨w.heap.size + 1, 1, none⟩ (.slice Av2 z.2.length cv2)) := (Chg.set (w := w1) ⟨w.heap.size + 1, 0, none⟩ (.slice Av1 z.1.length cv1)).trans (Chg.set ⟨w.heap.size + 1, 1, none⟩ (.slice Av2 z.2.length cv2)) (U := fun b => b = w.heap.size + 1) (fun _ h => h) (fun _ h => h)
         have bF : Box ((w1.setCell ⟨w.heap.size + 1, 0, none⟩ (.slice Av1 z.1.length cv1)).setCell ⟨w.heap.size + 1, 1, none⟩ (.slice Av2 z.2.length cv2)) (w.heap.size + 1) 30 #[.slice Av1 z.1.length cv1, .slice Av2 z.2.length cv2] := (brL.set_ 0 (.slice Av1 z.1.length cv1)).set_ 1 (.slice Av2 z.2.length cv2)
         have R0 := bF.d0
         have R1 := bF.d1
         have hwF : Below w.heap.size w ((w1.setCell ⟨w.heap.size + 1, 0, none⟩ (.slice Av1 z.1.length cv1)).setCell ⟨w.heap.size + 1, 1, none⟩ (.slice Av2 z.2.length cv2)) := hwL.trans (ch.below (by omega) (fun b hb => by omega))
         have fin := fo.chg ch (fun b hb => by omega)
         go_wp2
         exact bodyPost_ret (v := .agg #[.slice Av1 z.1.length cv1, .slice Av2 z.2.length cv2]) (by simp [results, Try.results102, go_sem, R0, R1]) rfl ⟨_, _, rfl, fin.more (by omega), hwF.mono hB⟩)
      | (have fo : OArn w1 (w.heap.size + 2) (.slice Av1 z.1.length cv1) (.slice Av2 z.2.length cv2) (z.1, z.2) := OArn.join hoC (((Far.refl _ wC).step (below_alloc (Nat.le_refl _) (Below.refl _ _))).trans hc1 (fun _ h => h) (fun b hb => by simp [Value.ownBlock] at hb; subst hb; omega)) ho1 (by first | omega | (simp; omega)) (fun b hb => by rcases hat1 b hb with h | h; (right; simp [Value.ownBlock] at h; omega); (right; simp at h; omega))
         have ch : Chg (fun b => b = w.heap.size + 1) w1 ((w1.setCell ⟨w.heap.size + 1, 0, none⟩ (.slice Av1 z.1.length cv1)).setCell ⟨w.heap.size + 1, 1, none⟩ (.slice Av2 z.2.length cv2)) := (Chg.set (w := w1) ⟨w.heap.size + 1, 0, none⟩ (.slice Av1 z.1.length cv1)).trans (Chg.set ⟨w.heap.size + 1, 1, none⟩ (.slice Av2 z.2.length cv2)) (U := fun b => b = w.heap.size + 1) (fun _ h => h) (fun _ h => h)
         have bF : Box ((w1.setCell ⟨w.heap.size + 1, 0, none⟩ (.slice Av1 z.1.length cv1)).setCell ⟨w.heap.size + 1, 1, none⟩ (.slice Av2 z.2.length cv2)) (w.heap.size + 1) 30 #[.slice Av1 z.1.length cv1, .slice Av2 z.2.length cv2] := (brL.set_ 0 (.slice Av1 z.1.length cv1)).set_ 1 (.slice Av2 z.2.length cv2)
         have R0 := bF.d0
         have R1 := bF.d1
         have hwF : Below w.heap.size w ((w1.setCell ⟨w.heap.size + 1, 0, none⟩ (.slice Av1 z.1.length cv1)).setCell ⟨w.heap.size + 1, 1, none⟩ (.slice Av2 z.2.length cv2)) := hwL.trans (ch.below (by omega) (fun b hb => by omega))
         have fin := fo.chg ch (fun b hb => by omega)
         go_wp2
         exact bodyPost_ret (v := .agg #[.slice Av1 z.1.length cv1, .slice Av2 z.2.length cv2]) (by simp [results, Try.results102, go_sem, R0, R1]) rfl ⟨_, _, rfl, fin.more (by omega), hwF.mono hB⟩)
      | (have fo : OArn wC (w.heap.size + 2) (.slice Av1 z.1.length cv1) (.slice Av2 z.2.length cv2) (z.1, z.2) := OArn.join hoC (Far.refl _ _) (ho1.below hbC) (by have := hb1.size; have := hs1; first | omega | (simp at *; omega)) (fun b hb => .inl (ho1.lt b hb).2)
         have ch : Chg (fun b => b = w.heap.size + 1) wC ((wC.setCell ⟨w.heap.size + 1, 0, none⟩ (.slice Av1 z.1.length cv1)).setCell ⟨w.heap.size + 1, 1, none⟩ (.slice Av2 z.2.length cv2)) := (Chg.set (w := wC) ⟨w.heap.size + 1, 0, none⟩ (.slice Av1 z.1.length cv1)).trans (Chg.set ⟨w.heap.size + 1, 1, none⟩ (.slice Av2 z.2.length cv2)) (U := fun b => b = w.heap.size + 1) (fun _ h => h) (fun _ h => h)
         have bF : Box ((wC.setCell ⟨w.heap.size + 1, 0, none⟩ (.slice Av1 z.1.length cv1)).setCell ⟨w.heap.size + 1, 1, none⟩ (.slice Av2 z.2.length cv2)) (w.heap.size + 1) 30 #[.slice Av1 z.1.length cv1, .slice Av2 z.2.length cv2] := (brL.set_ 0 (.slice Av1 z.1.length cv1)).set_ 1 (.slice Av2 z.2.length cv2)
         have R0 := bF.d0
         have R1 := bF.d1
         have hwF : Below w.heap.size w ((wC.setCell ⟨w.heap.size + 1, 0, none⟩ (.slice Av1 z.1.length cv1)).setCell ⟨w.heap.size + 1, 1, none⟩ (.slice Av2 z.2.length cv2)) := hwL.trans (ch.below (by omega) (fun b hb => by omega))
         have fin := fo.chg ch (fun b hb => by omega)
         go_wp2
         exact bodyPost_ret (v := .agg #[.slice Av1 z.1.length cv1, .slice Av2 z.2.length cv2]) (by simp [results, Try.results102, go_sem, R0, R1]) rfl ⟨_, _, rfl, fin.more (by omega), hwF.mono hB⟩)
end Go.Proofs.Ytngadlpfheakiaa
