/- The greatest set that is kept: sweeps till nothing turns. greatestSet, l15Stay, stayIn; StayWon. -/
import Derived.Test.YtngadlpfheakiaaMarks
import Derived.Test.YtngadlpfheakiaaApp
import Derived.Deep.LoopGhost
import Derived.Laws.AppendOwnNone
namespace Go.Proofs.Ytngadlpfheakiaa
open Go.RowKit

/-- one sweep over the first k: what is marked and not kept is unmarked at once -/
def sweep (kf : List Bool → Nat → Bool) (ms : List Bool) : Nat → List Bool
  | 0 => ms
  | k + 1 => if gb (sweep kf ms k) k && !kf (sweep kf ms k) k then (sweep kf ms k).set k false else sweep kf ms k
def sweeps (kf : List Bool → Nat → Bool) (m : Nat) (ms : List Bool) : Nat → List Bool
  | 0 => ms
  | t + 1 => sweep kf (sweeps kf m ms t) m
theorem sweep_len (kf : List Bool → Nat → Bool) (ms : List Bool) (k : Nat) : (sweep kf ms k).length = ms.length := by
  induction k with
  | zero => rfl
  | succ k ih => unfold sweep; split <;> simp [ih]
theorem sweeps_len (kf : List Bool → Nat → Bool) (m : Nat) (ms : List Bool) (t : Nat) : (sweeps kf m ms t).length = ms.length := by
  induction t with
  | zero => rfl
  | succ t ih => rw [sweeps, sweep_len, ih]
theorem sweep_hit {kf : List Bool → Nat → Bool} {ms : List Bool} {k : Nat} (h1 : gb (sweep kf ms k) k = true) (h2 : kf (sweep kf ms k) k = false) : sweep kf ms (k + 1) = (sweep kf ms k).set k false := by rw [sweep, h1, h2]; rfl
theorem sweep_off {kf : List Bool → Nat → Bool} {ms : List Bool} {k : Nat} (h1 : gb (sweep kf ms k) k = false) : sweep kf ms (k + 1) = sweep kf ms k := by rw [sweep, h1]; rfl
theorem sweep_kept {kf : List Bool → Nat → Bool} {ms : List Bool} {k : Nat} (h2 : kf (sweep kf ms k) k = true) : sweep kf ms (k + 1) = sweep kf ms k := by rw [sweep, h2]; simp
/-- the sweeps' end -/
def isGfp (kf : List Bool → Nat → Bool) (m : Nat) (ms r : List Bool) : Prop := ∃ t, r = sweeps kf m ms t ∧ sweep kf r m = r
theorem sweeps_fix {kf : List Bool → Nat → Bool} {m : Nat} {ms : List Bool} {t : Nat} (h : sweep kf (sweeps kf m ms t) m = sweeps kf m ms t) : ∀ d, sweeps kf m ms (t + d) = sweeps kf m ms t
  | 0 => rfl
  | d + 1 => by rw [← Nat.add_assoc, sweeps, sweeps_fix h d, h]
theorem isGfp.eq {kf : List Bool → Nat → Bool} {m : Nat} {ms r r' : List Bool} (h : isGfp kf m ms r) (h' : isGfp kf m ms r') : r = r' := by
  obtain ⟨t, rfl, hf⟩ := h
  obtain ⟨t', rfl, hf'⟩ := h'
  rcases Nat.le_total t t' with hl | hl
  · have := sweeps_fix hf (t' - t)
    rw [show t + (t' - t) = t' from by omega] at this
    exact this.symm
  · have := sweeps_fix hf' (t - t')
    rw [show t' + (t - t') = t from by omega] at this
    exact this
/-- the greatest set, by whatever it is that the sweeps end in -/
noncomputable def gfp (kf : List Bool → Nat → Bool) (m : Nat) (ms : List Bool) : List Bool := @Classical.epsilon _ ⟨ms⟩ (isGfp kf m ms)
theorem isGfp.is {kf : List Bool → Nat → Bool} {m : Nat} {ms r : List Bool} (h : isGfp kf m ms r) : r = gfp kf m ms := h.eq (@Classical.epsilon_spec _ (isGfp kf m ms) ⟨r, h⟩)
theorem isGfp.len {kf : List Bool → Nat → Bool} {m : Nat} {ms r : List Bool} (h : isGfp kf m ms r) : r.length = ms.length := by
  obtain ⟨t, rfl, _⟩ := h
  exact sweeps_len _ _ _ _
/-- how many are marked -/
def cnt (ms : List Bool) : Nat := ms.count true
theorem cnt_off {ms : List Bool} {k : Nat} (h : gb ms k = true) : cnt (ms.set k false) < cnt ms := by
  have hk : k < ms.length := by
    rcases Nat.lt_or_ge k ms.length with h1 | h1
    · exact h1
    · unfold gb at h; rw [List.getD_eq_getElem?_getD, List.getElem?_eq_none h1] at h; cases h
  rw [gb_get hk] at h
  unfold cnt
  rw [List.count_set hk, h]
  have : 0 < ms.count true := List.count_pos_iff.2 (h ▸ List.getElem_mem hk)
  simp
  omega
theorem OB.form2 {E : TypeId} {w : World} {lo : Nat} {v : Value} {xs : List Bool} (h : OB E w lo v xs) (h0 : 0 < xs.length) : ∃ g c, v = .slice (some ⟨g, 0, none⟩) xs.length c := by
  rcases h.2 with ⟨_, hn⟩ | ⟨g, cap, cur, rfl, _⟩
  · omega
  · exact ⟨_, _, rfl⟩
theorem OB.atx {E : TypeId} {w : World} {lo g n c i : Nat} {xs : List Bool} (h : OB E w lo (.slice (some ⟨g, 0, none⟩) n c) xs) (hi : i < xs.length) : w.cell? ⟨g, i, none⟩ = some (.bool (gb xs i)) := h.at_ hi

set_option maxRecDepth 100000 in
theorem wpList_appB {ops : Array Oper} {rest : List Oper} {o : Oper} {a : Act} {Q : Exit → Act → World → Prop} (hgd : o.guard = none) (s x : Operand)
    (ho : o.op = .call { callee := .builtin .append, args := #[s, x], argTypes := #[78, 78] })
    (w : World) (lo : Nat) (v : Value) (xs : List Bool) (hs : a.eval s = v) (hown : OB 4 w lo v xs) (X : Option Addr) (m c : Nat) (ys : List Bool) (hx : a.eval x = .slice X m c) (h0 : 0 < m) (hr : RB w X m c ys)
    (hn : xs.length ≤ 4194304) (hm : m ≤ 4194304) (hlo : lo ≤ w.heap.size)
    (h : ∀ v' w', OB 4 w' lo v' (xs ++ ys) → Below lo w w' → wpList Try.prog ops Q rest (a.put o.dst v') w') : wpList Try.prog ops Q (o :: rest) a w := by
  obtain ⟨i0, hi0, hz0, hz1, hz2⟩ := info_parts infoB
  obtain ⟨b0, off0, hX, _⟩ := hr.at_ h0
  subst hX
  have hnews : ∀ j u, (ys.map Value.bool)[j]? = some u → w.cell? ((⟨b0, off0, none⟩ : Addr).add j) = some u := by
    intro j u hj
    rw [List.getElem?_map] at hj
    have hjl : j < ys.length := by
      rcases Nat.lt_or_ge j ys.length with h1 | h1
      · exact h1
      · rw [List.getElem?_eq_none h1] at hj; cases hj
    obtain ⟨b, off, e, hc⟩ := hr.at_ (i := j) (by rw [← hr.len]; exact hjl)
    injection e with e
    injection e with e1 e2
    subst e1; subst e2
    rw [add_at, hc]
    rw [List.getElem?_eq_getElem hjl] at hj
    rw [gb_get hjl]
    simpa using hj
  refine wpList_append_lies w hgd s x 78 ho lo 4 i0 (.bool false) 1 1 Try.underlying78 hi0 hz0 hz1 hz2 rfl (by decide) v xs.length (xs.map Value.bool) hs hown ⟨b0, off0, none⟩ m c (ys.map Value.bool) hx (by rw [List.length_map, hr.len]; omega) hnews (fun u hu => by
    obtain ⟨y, _, rfl⟩ := List.mem_map.1 hu
    rfl) h0 (by unfold maxLen; omega) (by omega) hlo w.heap.size rfl ?_
  intro g cap w' h2 h3 h4 h5
  refine h _ w' ?_ ((Chg.of_grown h3).below hlo (fun z hz => (hown.lt z hz).1))
  unfold OB
  rw [List.length_append, List.map_append, hr.len]
  exact h2

set_option maxRecDepth 100000 in
set_option maxHeartbeats 1600000 in
theorem greatestSet (kf : List Bool → Nat → Bool) (f : FuncId) (cap : Array Value) (A0 A1 D : Option Addr) (n0 c0 n1 c1 m d : Nat) (ms : List Bool) (w : World) (B : Nat) (hB : B ≤ w.heap.size) (hm : RB w D m d ms) (hm0 : 0 < m) (hm1 : m ≤ 1048576)
    (hcf : ∀ (args : Array Value) (w : World), (callFunc f args).run Try.prog w = .ok (.enter f args) w)
    (hk : ∀ (w' : World) (A : Option Addr) (c : Nat) (r : List Bool) (v : Nat), Below w.heap.size w w' → RB w' A m c r → v < m → Calls Try.prog f (#[.int .i64 (v : Int), .slice A m c] ++ cap) w' fun e w'' => e = .returned (.bool (kf r v)) ∧ Below w'.heap.size w' w'') :
    Calls Try.prog 113 #[.agg #[.slice A0 n0 c0, .slice A1 n1 c1], .slice D m d, .func (.func f) #[] cap] w fun e w' => ∃ v, e = .returned v ∧ OB 4 w' B v (gfp kf m ms) ∧ (gfp kf m ms).length = m ∧ Below B w w' := by
  have b1 := hm.cap; have b2 := hm.top
  have HL := Lib.hid hm.len
  have HK := Lib.hid hk
  clear hk
  have hba : Below w.heap.size w ((w.alloc (.cells #[.slice A0 n0 c0, .slice A1 n1 c1] 30)).alloc (.cells #[] 4)) := below_alloc (Nat.le_refl _) (below_alloc (Nat.le_refl _) (Below.refl _ _))
  have hem : OB 4 ((w.alloc (.cells #[.slice A0 n0 c0, .slice A1 n1 c1] 30)).alloc (.cells #[] 4)) w.heap.size (.slice (some ⟨w.heap.size + 1, 0, none⟩) 0 0) [] := by
    have := OB.empty (E := 4) (w := w.alloc (.cells #[.slice A0 n0 c0, .slice A1 n1 c1] 30)) (B := w.heap.size) (by simp)
    simpa using this
  have hsz := hba.size
  go_enter Try.func113, Try.ntmps113
  go_wp2_with (refine wpList_appB rfl (.tmp 10) (.tmp 11) rfl _ w.heap.size (.slice (some ⟨w.heap.size + 1, 0, none⟩) 0 0) [] rfl hem _ _ _ ms rfl hm0 (hm.keep (keeps_below hba)) (by simp) (by omega) hsz ?_; intro v1 w1 ho1 hb1)
  try rw [List.nil_append] at ho1
  obtain ⟨g, cg, hv1⟩ := ho1.form2 (by rw [HL.out]; exact hm0)
  rw [HL.out] at hv1
  subst hv1
  have hw1 : Below w.heap.size w w1 := hba.trans hb1
  clear hba hem hsz hb1
  go_loopg [8] (cnt ms + 1) (fun gk x wr => ∃ (fl : Bool) (r : List Bool) (t : Nat), x = .bool fl ∧ r = sweeps kf m ms t ∧ (fl = false → sweep kf r m = r) ∧ cnt r + (if fl = true then 1 else 0) = gk ∧ OB 4 wr w.heap.size (.slice (some ⟨g, 0, none⟩) m cg) r ∧ Below w.heap.size w wr)
  case atStart => exact ⟨true, ms, 0, rfl, rfl, by simp, rfl, ho1, hw1⟩
  case round =>
    obtain ⟨fl, r, t, rfl, hr, hfix, hgk, ho, hbr⟩ := hrel
    have HR := Lib.hid hr; have HF := Lib.hid hfix; have HG := Lib.hid hgk
    have hrl : r.length = m := by rw [hr, sweeps_len, HL.out]
    have HRL := Lib.hid hrl
    clear hr hfix hgk hrl
    cases fl with
    | false =>
      have HE := Lib.hid (show isGfp kf m ms r from ⟨t, HR.out, HF.out rfl⟩)
      go_wp2
      go_ret
      exact ⟨_, rfl, by rw [← HE.out.is]; exact ho.more hB, by rw [← HE.out.is]; exact HRL.out, hbr.mono hB⟩
    | true =>
      obtain ⟨wo, rfl⟩ : ∃ wo : World, wo = wr := ⟨_, rfl⟩
      go_wp2
      go_loopw [8, 16] (fun x i wr => ∃ (j : Nat) (fl : Bool), j ≤ m ∧ i = .int .i64 j ∧ x = .bool fl ∧ (fl = false → sweep kf r j = r) ∧ (fl = true → cnt (sweep kf r j) < cnt r) ∧ OB 4 wr w.heap.size (.slice (some ⟨g, 0, none⟩) m cg) (sweep kf r j) ∧ Below w.heap.size w wr) (fun _ i _ => m - (intOf i).toNat)
      case atStart => exact ⟨0, false, Nat.zero_le _, rfl, rfl, fun _ => rfl, by simp, ho, hbr⟩
      case round =>
        obtain ⟨j, fl, hj, rfl, rfl, h1, h2, ho2, hb2⟩ := hrel
        have H1 := Lib.hid h1; have H2 := Lib.hid h2
        clear h1 h2
        by_cases hlt : j < m
        · have hc := ho2.atx (i := j) (by rw [sweep_len, HRL.out]; exact hlt)
          have hfz := ho2.hot (i := j) (by rw [sweep_len, HRL.out])
          cases hgb : gb (sweep kf r j) j with
          | false =>
            rw [hgb] at hc
            have HX := Lib.hid (sweep_off hgb)
            clear hgb
            go_wp2
            go_roundw
            case rel => exact ⟨j + 1, fl, by omega, by go_num, rfl, by rw [HX.out]; exact H1.out, by rw [HX.out]; exact H2.out, by rw [HX.out]; exact ho2, hb2⟩
            case measure => simp [intOf]; omega
          | true =>
            rw [hgb] at hc
            have hcall := HK.out wr _ _ (sweep kf r j) j hb2 ho2.reads hlt
            have HGB := Lib.hid hgb
            clear hgb
            cases hkf : kf (sweep kf r j) j with
            | true =>
              rw [hkf] at hcall
              have HX := Lib.hid (sweep_kept hkf)
              clear hkf
              go_wp2_with fail
              refine hcall.mono ?_; rintro e w2 ⟨rfl, hb3⟩
              go_wp2
              go_roundw
              case rel => exact ⟨j + 1, fl, by omega, by go_num, rfl, by rw [HX.out]; exact H1.out, by rw [HX.out]; exact H2.out, by rw [HX.out]; exact ho2.below hb3, below_then hb3 hb2.size hb2⟩
              case measure => simp [intOf]; omega
            | false =>
              rw [hkf] at hcall
              have HX := Lib.hid (sweep_hit HGB.out hkf)
              have HC := Lib.hid (cnt_off HGB.out)
              clear hkf
              go_wp2_with fail
              refine hcall.mono ?_; rintro e w2 ⟨rfl, hb3⟩
              have ho3 := ho2.below hb3
              have hc3 := ho3.atx (i := j) (by rw [sweep_len, HRL.out]; exact hlt)
              have hfz3 := ho3.hot (i := j) (by rw [sweep_len, HRL.out])
              have hgl : w.heap.size ≤ g := (ho2.lt g rfl).1
              go_wp2
              go_roundw
              case rel =>
                refine ⟨j + 1, true, by omega, by go_num, rfl, by simp, fun _ => ?_, by rw [HX.out]; exact ho3.set_ (by rw [sweep_len, HRL.out]) false, below_set (by exact hgl) (below_then hb3 hb2.size hb2)⟩
                rw [HX.out]
                have := HC.out
                cases fl with
                | true => have := H2.out rfl; omega
                | false => have h9 := H1.out rfl; rw [h9] at this ⊢; exact this
              case measure => simp [intOf]; omega
        · obtain rfl : j = m := by omega
          go_wp2
          go_roundg (cnt (sweep kf r j) + (if fl = true then 1 else 0))
          case rel => exact ⟨fl, sweep kf r j, t + 1, rfl, by rw [sweeps, ← HR.out], fun hf => by rw [H1.out hf]; exact H1.out hf, rfl, ho2, hb2⟩
          case measure =>
            have := HG.out
            cases fl with
            | true => have := H2.out rfl; simp at *; omega
            | false => have := H1.out rfl; simp [this] at *; omega

end Go.Proofs.Ytngadlpfheakiaa
