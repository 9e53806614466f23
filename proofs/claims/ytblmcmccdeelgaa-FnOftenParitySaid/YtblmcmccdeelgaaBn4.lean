/- Texts that the proof reaches: ParL, Edges, Play3, Strat, Levels, Levels2, Levels4, LevP, OftPlanP, Strat3, Game, Game2. -/
import Derived.Test.YtblmcmccdeelgaaBn3
namespace Go.Proofs.Ytblmcmccdeelgaa
open Go.RowKit

section
variable {w w' : World} {s0 s1 s2 : Value} {g : ParD} {A0 A1 A2 : Option Addr} {n0 c0 n1 c1 n2 c2 : Nat}
theorem RPv.form (h : RPv w s0 s1 s2 g) : ∃ A0 n0 c0 A1 n1 c1 A2 n2 c2, s0 = .slice A0 n0 c0 ∧ s1 = .slice A1 n1 c1 ∧ s2 = .slice A2 n2 c2 := by
  obtain ⟨h1, A, m, c, e, _⟩ := h
  obtain ⟨A0, n0, c0, A1, n1, c1, e0, e1⟩ := h1.form
  exact ⟨A0, n0, c0, A1, n1, c1, A, m, c, e0, e1, e⟩
theorem RPv.ri (h : RPv w (.slice A0 n0 c0) (.slice A1 n1 c1) (.slice A2 n2 c2) g) : RI w A0 n0 c0 g.1 := h.1.ri
theorem RPv.rii (h : RPv w (.slice A0 n0 c0) (.slice A1 n1 c1) (.slice A2 n2 c2) g) : RII w A1 n1 c1 g.2.1 := h.1.rii
theorem RPv.rp (h : RPv w (.slice A0 n0 c0) (.slice A1 n1 c1) (.slice A2 n2 c2) g) : RI w A2 n2 c2 g.2.2 := by
  obtain ⟨_, A, m, c, e, hr⟩ := h
  injection e with e1 e2 e3
  subst e1; subst e2; subst e3
  exact hr
theorem RPv.of (h : RI w A0 n0 c0 g.1) (k : RII w A1 n1 c1 g.2.1) (l : RI w A2 n2 c2 g.2.2) : RPv w (.slice A0 n0 c0) (.slice A1 n1 c1) (.slice A2 n2 c2) g := ⟨RAv.of h k, _, _, _, rfl, l⟩
end
/-- a game that the program takes -/
noncomputable def parB (g : ParD) : Bool := arB g.1 g.2.1 && decide (g.2.2.length = g.1.length ∧ ∀ i, i < g.2.2.length → 0 ≤ gi g.2.2 i ∧ gi g.2.2 i ≤ 40)
theorem parB_ar {g : ParD} (h : arB g.1 g.2.1 = false) : parB g = false := by unfold parB; rw [h]; rfl
theorem parB_no {g : ParD} (h : ¬ (g.2.2.length = g.1.length ∧ ∀ i, i < g.2.2.length → 0 ≤ gi g.2.2 i ∧ gi g.2.2 i ≤ 40)) : parB g = false := by unfold parB; rw [decide_eq_false h, Bool.and_false]
theorem parB_yes {g : ParD} (h : arB g.1 g.2.1 = true) (h2 : g.2.2.length = g.1.length ∧ ∀ i, i < g.2.2.length → 0 ≤ gi g.2.2 i ∧ gi g.2.2 i ≤ 40) : parB g = true := by unfold parB; rw [h, decide_eq_true h2]; rfl
/-- what the walks ask of a game in order -/
def finePar (g : ParD) : Prop := fineAr g.1 g.2.1 ∧ g.2.2.length = g.1.length ∧ ∀ i, i < g.2.2.length → 0 ≤ gi g.2.2 i ∧ gi g.2.2 i ≤ 40
theorem finePar_of {g : ParD} (h : parB g = true) : finePar g := by
  unfold parB at h
  rw [Bool.and_eq_true, decide_eq_true_iff] at h
  exact ⟨fineAr_of h.1, h.2⟩
theorem parB_parts {g : ParD} (h : parB g = true) : arB g.1 g.2.1 = true := by
  unfold parB at h
  rw [Bool.and_eq_true] at h
  exact h.1
theorem OPar.join {wC wF : World} {lo loC : Nat} {v0 v1 v2 : Value} {g : ParD} (h : OArn wC loC v0 v1 (g.1, g.2.1)) (f : Far loC wC wF) (h1 : OI 2 wF lo v2 g.2.2) (hlo : lo ≤ loC) (hap : ∀ b, v2.ownBlock = some b → b < loC ∨ wC.heap.size ≤ b) : OPar wF lo v0 v1 v2 g := by
  obtain ⟨cs, h, hd⟩ := h
  have hx : ∀ u, (∀ b, u.ownBlock = some b → loC ≤ b ∧ b < wC.heap.size) → Apart u v2 := fun u hu => by
    unfold Apart
    cases e : u.ownBlock with
    | none => exact .inl rfl
    | some b =>
      right
      intro e2
      have := hu b e
      have := hap b e2.symm
      omega
  refine ⟨cs, (h.hold f).more hlo, h1, Dis.cons (Dis.cons hd.tail fun i hi => (hx _ (h.2.2.lt i hi)).symm) fun i hi => ?_⟩
  cases i with
  | zero => exact hx _ h.1.lt
  | succ i =>
    have hi' : i < cs.length := by simpa using hi
    have := hd 0 (i + 1) (by simp) (by simpa using hi') (by omega)
    simpa [gv] using this
theorem Chg.one {w : World} (b i : Nat) (u : Value) : Chg (fun x => x = b) w (w.setCell ⟨b, i, none⟩ u) := Chg.set ⟨b, i, none⟩ u
set_option maxRecDepth 100000 in
set_option maxHeartbeats 800000 in
theorem specParityOk (s0 s1 s2 : Value) (g : ParD) (w : World) (B : Nat) (hB : B ≤ w.heap.size) (ha : RPv w s0 s1 s2 g) :
    Calls Try.prog 11 #[.agg #[s0, s1, s2]] w fun e w' => e = .returned (.bool (parB g)) ∧ Below B w w' := by
  obtain ⟨A0, n0, c0, A1, n1, c1, A2, n2, c2, rfl, rfl, rfl⟩ := ha.form
  have hr := ha.ri; have hrr := ha.rii; have hrp := ha.rp
  have b1 := hr.cap; have b2 := hr.top; have b3 := hrr.cap; have b4 := hrr.top; have b5 := hrp.cap; have b6 := hrp.top
  have HL := Lib.hid hr.len; have HM := Lib.hid hrr.len; have HP := Lib.hid hrp.len
  have hba : Below w.heap.size w (w.alloc (.cells #[.slice A0 n0 c0, .slice A1 n1 c1, .slice A2 n2 c2] 34)) := below_alloc (Nat.le_refl _) (Below.refl _ _)
  have bx := Box.new w 34 #[.slice A0 n0 c0, .slice A1 n1 c1, .slice A2 n2 c2]
  have q0 : (w.alloc (.cells #[.slice A0 n0 c0, .slice A1 n1 c1, .slice A2 n2 c2] 34)).cell? ⟨w.heap.size, 0, none⟩ = some (.slice A0 n0 c0) := bx.cell 0; have q1 : (w.alloc (.cells #[.slice A0 n0 c0, .slice A1 n1 c1, .slice A2 n2 c2] 34)).cell? ⟨w.heap.size, 1, none⟩ = some (.slice A1 n1 c1) := bx.cell 1; have q2 : (w.alloc (.cells #[.slice A0 n0 c0, .slice A1 n1 c1, .slice A2 n2 c2] 34)).cell? ⟨w.heap.size, 2, none⟩ = some (.slice A2 n2 c2) := bx.cell 2
  cases h1 : arB g.1 g.2.1 with
  | false =>
    have E := Lib.hid (parB_ar h1)
    have H1 := Lib.hid h1
    clear h1
    go_enter Try.func11, Try.ntmps11
    go_wp2_with fail
    refine (specArenaOk _ _ _ _ _ _ _ _ _ _ (Nat.le_refl _) (hr.keep (keeps_below hba)) (hrr.keep (keeps_below hba))).mono ?_; rintro e w1 ⟨rfl, hb1⟩
    rw [H1.out]
    go_wp2
    go_ret
    exact ⟨ret_b E.out.symm, (below_then hb1 hba.size hba).mono hB⟩
  | true =>
    have H1 := Lib.hid h1
    have hn0 := (fineAr_of h1).2.1
    rw [HL.out] at hn0
    clear h1
    by_cases hl : n2 = n0
    · have HE := Lib.hid hl
      have hd1 : ((n2 : Int) != (n0 : Int)) = false := by simp [hl]
      have hd2 : (n2 != n0) = false := by simp [hl]
      have hl2 : n2 ≤ 256 := by omega
      clear hl
      go_enter Try.func11, Try.ntmps11
      go_wp2_with fail
      refine (specArenaOk _ _ _ _ _ _ _ _ _ _ (Nat.le_refl _) (hr.keep (keeps_below hba)) (hrr.keep (keeps_below hba))).mono ?_; rintro e w1 ⟨rfl, hb1⟩
      rw [H1.out]
      have hw1 := below_then hb1 hba.size hba
      replace bx := bx.on hb1
      clear q0 q1 q2 hb1 hba
      have q0 : w1.cell? ⟨w.heap.size, 0, none⟩ = some (.slice A0 n0 c0) := bx.cell 0; have q1 : w1.cell? ⟨w.heap.size, 1, none⟩ = some (.slice A1 n1 c1) := bx.cell 1; have q2 : w1.cell? ⟨w.heap.size, 2, none⟩ = some (.slice A2 n2 c2) := bx.cell 2
      go_wp2
      go_loopw [3] (fun i wr => ∃ k : Nat, k ≤ n2 ∧ i = .int .i64 k ∧ (∀ j, j < k → 0 ≤ gi g.2.2 j ∧ gi g.2.2 j ≤ 40) ∧ Box wr w.heap.size 34 #[.slice A0 n0 c0, .slice A1 n1 c1, .slice A2 n2 c2] ∧ Below w.heap.size w wr) (fun i _ => n2 - (intOf i).toNat)
      case atStart => exact ⟨0, Nat.zero_le _, rfl, by omega, bx, hw1⟩
      case round =>
        obtain ⟨k, hk, rfl, hall, bxr, hbr⟩ := hrel
        have HA := Lib.hid hall
        clear hall q0 q1 q2 bx
        have q0 : wr.cell? ⟨w.heap.size, 0, none⟩ = some (.slice A0 n0 c0) := bxr.cell 0; have q1 : wr.cell? ⟨w.heap.size, 1, none⟩ = some (.slice A1 n1 c1) := bxr.cell 1; have q2 : wr.cell? ⟨w.heap.size, 2, none⟩ = some (.slice A2 n2 c2) := bxr.cell 2
        by_cases hlt : k < n2
        · obtain ⟨bb, ob, rfl, hc⟩ := (hrp.keep (keeps_below hbr)).at_ hlt
          have hki : (k : Int) < (n2 : Int) := by omega
          have hk0' : (0 : Int) ≤ (k : Int) := by omega
          cases hv : inR (gi g.2.2 k) 0 40 with
          | true =>
            have hkk : 0 ≤ gi g.2.2 k ∧ gi g.2.2 k ≤ 40 := of_decide_eq_true hv
            have HK := Lib.hid hkk
            have HV := Lib.hid hv
            clear hkk hv
            go_wp2_with fail
            refine (l1In _ _ _ _).mono ?_; rintro e wx ⟨rfl, qx, rfl⟩
            rw [HV.out]
            go_wp2
            go_roundw
            case rel => exact ⟨k + 1, by omega, by go_num, all_succ HA.out HK.out, bxr.drewN _, below_drewN hbr _⟩
            case measure => simp [intOf]; omega
          | false =>
            have E := Lib.hid (show parB g = false from parB_no fun h => by
              have := h.2 k (by rw [HP.out]; exact hlt)
              rw [show inR (gi g.2.2 k) 0 40 = true from decide_eq_true this] at hv; cases hv)
            have HV := Lib.hid hv
            clear hv
            go_wp2_with fail
            refine (l1In _ _ _ _).mono ?_; rintro e wx ⟨rfl, qx, rfl⟩
            rw [HV.out]
            go_wp2
            go_ret
            exact ⟨ret_b E.out.symm, (below_drewN hbr _).mono hB⟩
        · obtain rfl : k = n2 := by omega
          have E := Lib.hid (show parB g = true from parB_yes H1.out ⟨by rw [HP.out, HL.out]; exact HE.out, by rw [HP.out]; exact HA.out⟩)
          go_wp2
          go_ret
          exact ⟨ret_b E.out.symm, hbr.mono hB⟩
    · have E := Lib.hid (show parB g = false from parB_no fun h => hl (by rw [← HL.out, ← HP.out]; exact h.1))
      have hd1 : ((n2 : Int) != (n0 : Int)) = true := by simp; omega
      have hd2 : (n2 != n0) = true := by simp [hl]
      clear hl
      go_enter Try.func11, Try.ntmps11
      go_wp2_with fail
      refine (specArenaOk _ _ _ _ _ _ _ _ _ _ (Nat.le_refl _) (hr.keep (keeps_below hba)) (hrr.keep (keeps_below hba))).mono ?_; rintro e w1 ⟨rfl, hb1⟩
      rw [H1.out]
      have hw1 := below_then hb1 hba.size hba
      replace bx := bx.on hb1
      clear q0 q1 q2 hb1 hba
      have q0 : w1.cell? ⟨w.heap.size, 0, none⟩ = some (.slice A0 n0 c0) := bx.cell 0; have q1 : w1.cell? ⟨w.heap.size, 1, none⟩ = some (.slice A1 n1 c1) := bx.cell 1; have q2 : w1.cell? ⟨w.heap.size, 2, none⟩ = some (.slice A2 n2 c2) := bx.cell 2
      go_wp2
      go_ret
      exact ⟨ret_b E.out.symm, hw1.mono hB⟩


end Go.Proofs.Ytblmcmccdeelgaa
namespace Go.Proofs.Ytblmcmccdeelgaa
open Go.RowKit

/-- a row of rows of the call's own; each of its rows is read in w0, or is of the call's own -/
def OLR (w0 w : World) (lo : Nat) (v : Value) (E : List (List Int)) : Prop := ∃ cs, w.ownsRow lo 27 1 v E.length cs ∧ ∀ j, j < E.length → RIv w0 (gv cs j) (gl E j) ∨ OI 2 w lo (gv cs j) (gl E j)
section
variable {w0 w w' : World} {lo : Nat} {v : Value} {E : List (List Int)}
theorem OLR.below (h : OLR w0 w lo v E) (hb : Below w.heap.size w w') : OLR w0 w' lo v E := by
  obtain ⟨cs, h1, h2⟩ := h
  exact ⟨cs, row_below h1 hb, fun j hj => (h2 j hj).imp id (fun k => k.below hb)⟩
theorem OLR.form (h : OLR w0 w lo v E) : ∃ A c, v = .slice A E.length c := by
  obtain ⟨cs, ⟨_, h⟩, _⟩ := h
  rcases h with ⟨rfl, hn⟩ | ⟨g, cap, cur, rfl, _⟩
  · exact ⟨none, 0, by rw [hn]⟩
  · exact ⟨_, _, rfl⟩
theorem OLR.empty (hl : lo ≤ w.heap.size) : OLR w0 (w.alloc (.cells #[] 27)) lo (.slice (some ⟨w.heap.size, 0, none⟩) 0 0) [] := ⟨[], World.ownsRow_lit w #[] 0 hl (by decide) rfl, fun j hj => by simp at hj⟩
theorem OLR.reads {A : Option Addr} {n c : Nat} (h : OLR w0 w lo (.slice A n c) E) (hk : Keeps w0 w) : RII w A n c E := by
  obtain ⟨cs, h1, h2⟩ := h
  have hl : cs.length = E.length := by have := row_len h1; omega
  rcases h1.2 with ⟨e, hn⟩ | ⟨g, cap, cur, e, hb, hg, hnc, hm, hs, ht⟩
  · injection e with e1 e2 e3
    subst e1; subst e2; subst e3
    exact ⟨by omega, ⟨Nat.le_refl _, by omega⟩, fun i hi => absurd hi (by omega)⟩
  · injection e with e1 e2 e3
    subst e1; subst e2; subst e3
    refine ⟨rfl, ⟨hnc, by unfold maxLen at hm; omega⟩, fun i hi => ?_⟩
    have hc := row_cell h1 (j := i) (by omega)
    rcases h2 i hi with k | k
    · obtain ⟨A', n', c', e', hr⟩ := k
      rw [e'] at hc
      exact ⟨g, 0, A', n', c', rfl, by rw [Nat.zero_add]; exact hc, hr.keep hk⟩
    · obtain ⟨A', c', e'⟩ := k.form
      rw [e'] at hc k
      exact ⟨g, 0, A', _, c', rfl, by rw [Nat.zero_add]; exact hc, k.reads⟩
end
theorem wpList_pushE {ops : Array Oper} {rest : List Oper} {o : Oper} {a : Act} {Q : Exit → Act → World → Prop} (hgd : o.guard = none) (s x : Operand)
    (ho : o.op = .call { callee := .builtin .append, args := #[s, x], argTypes := #[28, 28] })
    (w0 w : World) (H : Nat) (hH : w.heap.size = H) (lo : Nat) (v : Value) (E : List (List Int)) (hs : a.eval s = v) (hown : OLR w0 w lo v E) (y : Value) (ys : List Int) (hy : RIv w0 y ys ∨ OI 2 w lo y ys) (hx : a.eval x = .slice (some ⟨H, 0, none⟩) 1 1)
    (hn : E.length ≤ 4194304) (hlo : lo ≤ H)
    (h : ∀ v' w', OLR w0 w' lo v' (E ++ [ys]) → Below lo w w' → wpList Try.prog ops Q rest (a.put o.dst v') w') : wpList Try.prog ops Q (o :: rest) a (w.alloc (.cells #[y] 27)) := by
  subst hH
  obtain ⟨i1, hi1, hy0, hy1, hy2⟩ := info_parts infoII
  obtain ⟨cs, h1, h2⟩ := hown
  have hl : cs.length = E.length := by have := row_len h1; omega
  have hba : Below w.heap.size w (w.alloc (.cells #[y] 27)) := below_alloc (Nat.le_refl _) (Below.refl _ _)
  have hya : y.oneCell' = true := by
    rcases hy with ⟨A, n, c, rfl, _⟩ | k
    · rfl
    · obtain ⟨A, c, rfl⟩ := k.form; rfl
  have r1 := row_below h1 hba
  refine wpList_push _ hgd s x 28 ho lo 27 i1 (.slice none 0 0) 24 Try.underlying28 hi1 hy0 hy1 hy2 rfl v E.length cs hs r1 w.heap.size y hx ((Box.new w _ _).cell 0) hya hn (by decide) (by simp; omega) ?_
  intro g cap w' r hg hat hlt
  have hc := Chg.of_grown hg
  have hb : Below lo w w' := (hba.mono hlo).trans (hc.below (by simp; omega) (fun z hz => (World.ownsRow.lt r1 z hz).1))
  refine h _ w' ⟨cs ++ [y], ?_, fun j hj => ?_⟩ hb
  · rw [List.length_append, List.length_singleton]; exact r
  · rw [List.length_append, List.length_singleton] at hj
    by_cases e : j < E.length
    · rw [gv_app_lt (by omega), gl_app_lt e]
      exact (h2 j e).imp id (fun k => (k.below hba).chg hc (fun b hb' hs' => own_ne (k.below hba) r1 (by decide) b hb' hs'))
    · obtain rfl : j = E.length := by omega
      rw [gl_app_eq, ← hl, gv_app_eq]
      exact hy.imp id (fun k => (k.below hba).chg hc (fun b hb' hs' => own_ne (k.below hba) r1 (by decide) b hb' hs'))
/-- the edges by a plan -/
def edL (n : List (List Int)) (p : List Int) (k : Nat) : List (List Int) := (List.range k).map fun v => if 0 ≤ gi p v then [gi p v] else gl n v
theorem edL_len (n : List (List Int)) (p : List Int) (k : Nat) : (edL n p k).length = k := by simp [edL]
theorem edL_yes {n : List (List Int)} {p : List Int} {k : Nat} (h : 0 ≤ gi p k) : edL n p (k + 1) = edL n p k ++ [[gi p k]] := by simp [edL, List.range_succ, h]
theorem edL_no {n : List (List Int)} {p : List Int} {k : Nat} (h : ¬ 0 ≤ gi p k) : edL n p (k + 1) = edL n p k ++ [gl n k] := by simp [edL, List.range_succ, h]
theorem edL_at {n : List (List Int)} {p : List Int} {k v : Nat} (h : v < k) : gl (edL n p k) v = if 0 ≤ gi p v then [gi p v] else gl n v := by simp [gl, edL, h]
set_option maxRecDepth 100000 in
set_option maxHeartbeats 1600000 in
theorem specEdges (A0 A1 C : Option Addr) (n0 c0 n1 c1 m d : Nat) (n : List (List Int)) (p : List Int) (w : World) (B : Nat) (hB : B ≤ w.heap.size) (hb : RII w A1 n1 c1 n) (hp : RI w C m d p) (hm : n1 ≤ m) (hn : n1 ≤ 256) :
    Calls Try.prog 68 #[.agg #[.slice A0 n0 c0, .slice A1 n1 c1], .slice C m d] w fun e w' => ∃ (A : Option Addr) (c : Nat), e = .returned (.slice A n1 c) ∧ RII w' A n1 c (edL n p n1) ∧ Below B w w' := by
  have b3 := hb.cap; have b4 := hb.top; have b5 := hp.cap; have b6 := hp.top
  have bx := Box.new w 30 #[.slice A0 n0 c0, .slice A1 n1 c1]
  have hwL : Below w.heap.size w (w.alloc (.cells #[.slice A0 n0 c0, .slice A1 n1 c1] 30)) := below_alloc (Nat.le_refl _) (Below.refl _ _)
  go_enter Try.func68, Try.ntmps68
  go_wp2
  go_loopw [5, 6] (fun v i wr => ∃ k : Nat, k ≤ n1 ∧ i = .int .i64 (k : Int) ∧ OLR w wr (w.heap.size + 1) v (edL n p k) ∧ Box wr w.heap.size 30 #[.slice A0 n0 c0, .slice A1 n1 c1] ∧ Below w.heap.size w wr) (fun _ i _ => n1 - (intOf i).toNat)
  case atStart => exact ⟨0, Nat.zero_le _, rfl, by have h := OLR.empty (w0 := w) (w := w.alloc (.cells #[.slice A0 n0 c0, .slice A1 n1 c1] 30)) (lo := w.heap.size + 1) (by simp); simpa [edL] using h, bx.alloc _, below_alloc (Nat.le_refl _) hwL⟩
  case round =>
    obtain ⟨k, hk, rfl, ho, bX, hbr⟩ := hrel
    have q0 : wr.cell? ⟨w.heap.size, 0, none⟩ = some (.slice A0 n0 c0) := bX.cell 0
    have q1 : wr.cell? ⟨w.heap.size, 1, none⟩ = some (.slice A1 n1 c1) := bX.cell 1
    obtain ⟨Av, cv, rfl⟩ := ho.form
    have hLk := edL_len n p k
    have hbl := bX.lt
    by_cases hlt : k < n1
    · obtain ⟨bp, op, hC, hcp⟩ := (hp.keep (keeps_below hbr)).at_ (show k < m by omega)
      subst hC
      have hll : (edL n p k).length ≤ 4194304 := by omega
      have HLk := Lib.hid hLk
      clear hLk
      by_cases hpk : 0 ≤ gi p k
      · have HU := Lib.hid (edL_yes (n := n) hpk)
        generalize gi p k = z at *
        have hoA := ho.below (below_alloc (o := .cells #[.int .i64 z] 2) (Nat.le_refl _) (Below.refl wr.heap.size wr))
        have hnew : OI 2 (wr.alloc (.cells #[.int .i64 z] 2)) (w.heap.size + 1) (.slice (some ⟨wr.heap.size, 0, none⟩) 1 1) [z] := OI.lit1 hbl
        have hbA : Below w.heap.size w (wr.alloc (.cells #[.int .i64 z] 2)) := below_alloc (Nat.le_refl _) hbr
        have bA := bX.alloc (.cells #[.int .i64 z] 2)
        go_wp2_with (at_builtin; refine wpList_pushE rfl (.tmp 20) (.tmp 26) rfl w (wr.alloc (.cells #[.int .i64 z] 2)) (wr.heap.size + 1) (by simp) (w.heap.size + 1) (.slice Av (edL n p k).length cv) (edL n p k) rfl hoA (.slice (some ⟨wr.heap.size, 0, none⟩) 1 1) [z] (.inr hnew) rfl hll (by omega) ?_; intro v2 w2 ho2 hb2)
        go_roundw
        case rel => exact ⟨k + 1, by omega, by go_num, by rw [HU.out]; exact ho2, bA.below hb2 (by omega), hbA.trans (hb2.mono (by omega))⟩
        case measure => simp [intOf]; omega
      · have HU := Lib.hid (edL_no (n := n) hpk)
        obtain ⟨bn, on, A', n', c', hA1, hcn, hrn⟩ := hb.at_ hlt
        subst hA1
        have hcn1 := keeps_below hbr _ _ hcn
        go_wp2_with (at_builtin; refine wpList_pushE rfl (.tmp 28) (.tmp 34) rfl w wr wr.heap.size rfl (w.heap.size + 1) (.slice Av (edL n p k).length cv) (edL n p k) rfl ho (.slice A' n' c') (gl n k) (.inl ⟨A', n', c', rfl, hrn⟩) rfl hll hbl ?_; intro v2 w2 ho2 hb2)
        go_roundw
        case rel => exact ⟨k + 1, by omega, by go_num, by rw [HU.out]; exact ho2, bX.below hb2 (by omega), hbr.trans (hb2.mono (by omega))⟩
        case measure => simp [intOf]; omega
    · obtain rfl : k = n1 := by omega
      rw [hLk] at ho ⊢
      have hR := ho.reads (keeps_below hbr)
      go_wp2
      go_ret
      exact ⟨_, _, rfl, hR, hbr.mono hB⟩
end Go.Proofs.Ytblmcmccdeelgaa
namespace Go.Proofs.Ytblmcmccdeelgaa
open Go.RowKit

def otherL (m : Nat) (s : List Int) : List Int := pick (fun v => !hasL s (v : Int)) (fun v => (v : Int)) m
theorem mem_other {m : Nat} {s : List Int} {x : Int} : x ∈ otherL m s ↔ ∃ v : Nat, v < m ∧ hasL s (v : Int) = false ∧ (v : Int) = x := by
  unfold otherL
  rw [mem_pick]
  simp
theorem other_rises (m : Nat) (s : List Int) : rises (otherL m s) := pick_rises fun i j h _ => by omega
theorem other_set (m : Nat) (s : List Int) : setB (otherL m s) (m : Int) = true := setB_of_rises (other_rises m s) fun x hx => by
  obtain ⟨v, hv, _, e⟩ := mem_other.1 hx
  omega

theorem OArn.cells {w : World} {lo : Nat} {s0 s1 : Value} {z : ArD} (h : OArn w lo s0 s1 z) {k : Nat} (hk : k < z.2.length) (hn : 0 < (gl z.2 k).length) :
    ∃ c1 bn br cn, s1 = .slice (some ⟨bn, 0, none⟩) z.2.length c1 ∧ lo ≤ bn ∧ w.cell? ⟨bn, k, none⟩ = some (.slice (some ⟨br, 0, none⟩) (gl z.2 k).length cn) ∧ lo ≤ br ∧ (∀ j, j < (gl z.2 k).length → w.cell? ⟨br, j, none⟩ = some (.int .i64 (gi (gl z.2 k) j))) ∧ (gl z.2 k).length ≤ cn ∧ cn ≤ 9223372036854775807 := by
  obtain ⟨cs, ⟨h0, h1, h2⟩, hd⟩ := h
  have hl := row_len h1
  obtain ⟨br, cn, e⟩ := (h2 k (by omega)).form2 hn
  have hok := h2 k (by omega)
  have h1' := h1
  rcases h1.2 with ⟨_, h3⟩ | ⟨g, cap, cur, rfl, _⟩
  · omega
  · have hc := row_cell h1' (j := k) (by omega)
    rw [e] at hc hok
    exact ⟨cap, g, br, cn, rfl, (World.ownsRow.lt h1' g rfl).1, hc, (hok.lt br rfl).1, fun j hj => hok.cellAt hj, hok.reads.cap, hok.reads.top⟩

end Go.Proofs.Ytblmcmccdeelgaa
namespace Go.Proofs.Ytblmcmccdeelgaa
open Go.RowKit

end Go.Proofs.Ytblmcmccdeelgaa
namespace Go.Proofs.Ytblmcmccdeelgaa
open Go.RowKit

/-! ### plays -/
section
variable {o : List Int} {n : List (List Int)} {who : Int} {p q : List Int}
end
theorem has_row {ns : List Int} {x : Int} (h : hasL ns x = true) : ∃ i, i < ns.length ∧ gi ns i = x := mem_gi (hasL_iff.1 h)

/-! ### first choices -/
theorem firstU_or {al : Nat → Bool} {ns : List Int} : ∀ {k : Nat}, k ≤ ns.length → (∀ j, j < k → 0 ≤ gi ns j) → firstU al ns k = -1 ∨ (0 ≤ firstU al ns k ∧ firstU al ns k ∈ ns)
  | 0, _, _ => .inl rfl
  | k + 1, hk, h => by
    rw [firstU]
    split
    · split
      · exact .inr ⟨h k (by omega), gi_mem (by omega)⟩
      · exact .inl rfl
    · rename_i h1
      exact (firstU_or (by omega) fun j hj => h j (by omega)).imp (fun e => by omega) id
section
variable {o : List Int} {n : List (List Int)} {who : Int}
theorem row_nat (hf : fineAr o n) {v : Nat} (hv : v < o.length) {j : Nat} (hj : j < (gl n v).length) : (gi (gl n v) j).toNat < o.length ∧ ((gi (gl n v) j).toNat : Int) = gi (gl n v) j := setB_nat (hf.2.2.2 v hv).2.2 hj
theorem least_fine (hf : fineAr o n) {ins : List Bool} {al : Nat → Nat → Bool} {v : Nat} (hv : v < o.length) : leastV o n who ins al v = -1 ∨ (gi o v = who ∧ hasL (gl n v) (leastV o n who ins al v) = true) := by
  unfold leastV
  split
  · rename_i h
    rcases firstU_or (al := al v) (ns := gl n v) (Nat.le_refl _) (fun j hj => by have := (row_nat hf hv hj).2; omega) with e | e
    · exact .inl e
    · exact .inr ⟨h.2, hasL_iff.2 e.2⟩
  · exact .inl rfl
theorem planL_fine (hf : fineAr o n) (ins : List Bool) (al : Nat → Nat → Bool) : fineP o n who (planL o n who ins al) :=
  ⟨fill_len _ _, fun v hv => by
    unfold planL
    rw [fill_at hv]
    exact least_fine hf hv⟩
/-! ### ranks -/
theorem rnks_keep {inn goal : List Int} {m k u : Nat} (hu : u < m) (h : 0 ≤ gi (rnks o n who inn goal m k) u) : ∀ d, gi (rnks o n who inn goal m (k + d)) u = gi (rnks o n who inn goal m k) u
  | 0 => rfl
  | d + 1 => by
    have ih := rnks_keep hu h d
    rw [← Nat.add_assoc, rnks]
    unfold rnkS
    rw [fill_at hu]
    split
    · rw [if_neg, ih]
      unfold rnkC
      rw [ih, decide_eq_false (by omega)]; simp
    · exact ih
theorem rank_stage {inn goal : List Int} {m k v : Nat} (hv : v < m) : ∀ {T : Nat}, gi (rnks o n who inn goal m T) v = ((k + 1 : Nat) : Int) → k + 1 ≤ T ∧ gi (rnks o n who inn goal m k) v < 0 ∧ hasL inn (v : Int) = true ∧ pulledB o n who (mkM m inn) (rnks o n who inn goal m k) v = true
  | 0, h => by
    rw [rnks] at h; unfold rnk0 at h
    rw [fill_at hv] at h
    split at h
    · split at h <;> omega
    · omega
  | T + 1, h => by
    rw [rnks] at h
    unfold rnkS at h
    rw [fill_at hv] at h
    split at h
    · rename_i hi
      split at h
      · rename_i hc
        have e : T = k := by omega
        subst e
        unfold rnkC at hc
        rw [Bool.and_eq_true] at hc
        exact ⟨Nat.le_refl _, of_decide_eq_true hc.1, hi, hc.2⟩
      · obtain ⟨h1, h2⟩ := rank_stage hv h
        exact ⟨by omega, h2⟩
    · obtain ⟨h1, h2⟩ := rank_stage hv h
      exact ⟨by omega, h2⟩
/-- one rank above another: own vertices have a successor of the rank below, of the others' all successors within lie below -/
theorem rank_step {inn goal : List Int} {k v : Nat} (hv : v < o.length) (h : gi (ranksL o n who inn goal) v = ((k + 1 : Nat) : Int)) (hf : fineAr o n) :
    (gi o v = who → ∃ i, i < (gl n v).length ∧ gb (mkM o.length inn) (gi (gl n v) i).toNat = true ∧ gi (ranksL o n who inn goal) (gi (gl n v) i).toNat = (k : Int)) ∧
    (¬ gi o v = who → ∀ i, i < (gl n v).length → gb (mkM o.length inn) (gi (gl n v) i).toNat = true → 0 ≤ gi (ranksL o n who inn goal) (gi (gl n v) i).toNat ∧ gi (ranksL o n who inn goal) (gi (gl n v) i).toNat ≤ (k : Int)) := by
  have hR := ranksL_eq o n who inn goal
  rw [hR] at h ⊢
  obtain ⟨hkT, hneg, hin, hp⟩ := rank_stage hv h
  have up : ∀ u, u < o.length → 0 ≤ gi (rnks o n who inn goal o.length k) u → gi (rnks o n who inn goal o.length o.length) u = gi (rnks o n who inn goal o.length k) u := fun u hu h0 => by
    have := rnks_keep (o := o) (n := n) (who := who) (inn := inn) (goal := goal) hu h0 (o.length - k)
    rwa [show k + (o.length - k) = o.length by omega] at this
  unfold pulledB at hp
  constructor
  · intro hown
    rw [if_pos hown] at hp
    obtain ⟨i, hi, hg, h0⟩ := pSome_iff.1 hp
    have hu := (row_nat hf hv hi).1
    refine ⟨i, hi, hg, ?_⟩
    rw [up _ hu h0]
    have htop := (rnks_top (o := o) (n := n) (who := who) (inn := inn) (goal := goal) k _ hu).1
    cases k with
    | zero => omega
    | succ k =>
      have hun := rnks_unpulled hv hin hneg
      unfold pulledB at hun
      rw [if_pos hown] at hun
      by_cases hlt : gi (rnks o n who inn goal o.length (k + 1)) (gi (gl n v) i).toNat ≤ (k : Int)
      · have hold := rnks_old hu hlt
        have : pSome (gl n v) (mkM o.length inn) (rnks o n who inn goal o.length k) (gl n v).length = true := pSome_iff.2 ⟨i, hi, hg, by rw [hold]; exact h0⟩
        rw [this] at hun; cases hun
      · omega
  · intro hown i hi hg
    rw [if_neg hown, Bool.and_eq_true] at hp
    have h0 := pAll_iff.1 hp.2 i hi hg
    have hu := (row_nat hf hv hi).1
    rw [up _ hu h0]
    exact ⟨h0, (rnks_top (o := o) (n := n) (who := who) (inn := inn) (goal := goal) k _ hu).1⟩
end
end Go.Proofs.Ytblmcmccdeelgaa
namespace Go.Proofs.Ytblmcmccdeelgaa
open Go.RowKit

theorem all_gb {m u : Nat} (hu : u < m) : gb (mkM m (allL m)) u = true := by
  rw [mkM_iff hu]
  have := gi_mem (xs := allL m) (i := u) (by rw [allL_len]; exact hu)
  rwa [gi_all hu] at this
theorem all_mem {m u : Nat} (hu : u < m) : (u : Int) ∈ allL m := (mkM_iff hu).1 (all_gb hu)
theorem other_iff {m v : Nat} {s : List Int} (hv : v < m) : (v : Int) ∈ otherL m s ↔ ¬ (v : Int) ∈ s := by
  rw [mem_other]
  constructor
  · rintro ⟨u, _, h, e⟩ hm
    have e2 : u = v := by omega
    subst e2
    exact of_decide_eq_false h hm
  · intro h
    exact ⟨v, hv, decide_eq_false h, rfl⟩
section
variable {o : List Int} {n : List (List Int)} {who : Int} {goal : List Int}
theorem attr_rank {inn : List Int} {v : Nat} (h : (v : Int) ∈ attrL o n who inn goal) : v < o.length ∧ 0 ≤ gi (ranksL o n who inn goal) v := by
  obtain ⟨u, hu, hr, e⟩ := mem_attrL.1 h
  have e2 : u = v := by omega
  subst e2
  exact ⟨hu, hr⟩
theorem row_nonneg (hf : fineAr o n) {v : Nat} (hv : v < o.length) : ∀ j, j < (gl n v).length → 0 ≤ gi (gl n v) j := fun j hj => by have := (row_nat hf hv hj).2; omega

/-! ### to reach a goal, to keep away from it -/
/-! ### what the law asks -/
end
end Go.Proofs.Ytblmcmccdeelgaa
namespace Go.Proofs.Ytblmcmccdeelgaa
open Go.RowKit

/-- a row of bool of which the first k have been written -/
def fillB (f : Nat → Bool) (n k : Nat) : List Bool := (List.range n).map fun i => decide (i < k) && f i
theorem fillB_len (f : Nat → Bool) (n k : Nat) : (fillB f n k).length = n := by simp [fillB]
theorem fillB_at {f : Nat → Bool} {n k i : Nat} (h : i < n) : gb (fillB f n k) i = (decide (i < k) && f i) := by
  rw [gb_get (by rw [fillB_len]; exact h)]; simp [fillB]
theorem fillB_zero (f : Nat → Bool) (n : Nat) : fillB f n 0 = List.replicate n false := gb_ext (by simp [fillB_len]) fun j hj => by
  rw [fillB_len] at hj
  rw [fillB_at hj, gb_rep]; simp
theorem fillB_put {f : Nat → Bool} {n k : Nat} (h : k < n) : (fillB f n k).set k (f k) = fillB f n (k + 1) := gb_ext (by simp [fillB_len]) fun j hj => by
  rw [List.length_set, fillB_len] at hj
  rw [gb_set (by rw [fillB_len]; exact h), fillB_at hj, fillB_at hj]
  by_cases e : k = j
  · subst e; rw [if_pos rfl]; simp
  · rw [if_neg e]
    by_cases e2 : j < k
    · simp [e2, show j < k + 1 by omega]
    · simp [e2, show ¬ j < k + 1 by omega]
theorem gb_true (n i : Nat) (h : i < n) : gb (List.replicate n true) i = true := by
  rw [gb_get (by simpa using h)]; simp
theorem fillB_true (n : Nat) : fillB (fun _ => true) n n = List.replicate n true := gb_ext (by simp [fillB_len]) fun j hj => by
  rw [fillB_len] at hj
  rw [fillB_at hj, gb_true _ _ hj]; simp [hj]

/-- what has a level -/
def lowM (L : List Int) : List Bool := L.map fun x => decide (0 ≤ x)
theorem lowM_len (L : List Int) : (lowM L).length = L.length := by simp [lowM]
theorem lowM_at {L : List Int} {i : Nat} (h : i < L.length) : gb (lowM L) i = decide (0 ≤ gi L i) := by
  rw [gb_get (by rw [lowM_len]; exact h), gi_get h]; simp [lowM]
theorem lowM_fill {L : List Int} {n : Nat} (h : L.length = n) : fillB (fun i => decide (0 ≤ gi L i)) n n = lowM L := gb_ext (by rw [fillB_len, lowM_len, h]) fun j hj => by
  rw [fillB_len] at hj
  rw [fillB_at hj, lowM_at (by omega)]; simp [hj]
theorem negL_len (n : Nat) : (negL n).length = n := fill_len _ _

def keptL (o : List Int) (n : List (List Int)) (who : Int) (x sf : List Bool) (r : List Bool) (v : Nat) : Bool := intoB o n who x v || (gb sf v && intoB o n who r v)
theorem keptL_1 {o : List Int} {n : List (List Int)} {who : Int} {x sf r : List Bool} {v : Nat} (h : intoB o n who x v = true) : keptL o n who x sf r v = true := by unfold keptL; rw [h]; rfl
theorem keptL_2 {o : List Int} {n : List (List Int)} {who : Int} {x sf r : List Bool} {v : Nat} (h : intoB o n who x v = false) (h2 : gb sf v = false) : keptL o n who x sf r v = false := by unfold keptL; rw [h, h2]; rfl
theorem keptL_3 {o : List Int} {n : List (List Int)} {who : Int} {x sf r : List Bool} {v : Nat} {b : Bool} (h : intoB o n who x v = false) (h2 : gb sf v = true) (h3 : intoB o n who r v = b) : keptL o n who x sf r v = b := by unfold keptL; rw [h, h2, h3]; simp

noncomputable def lvlSet (o : List Int) (n : List (List Int)) (who : Int) (sf : List Bool) (m : Nat) (L : List Int) : List Bool := gfp (keptL o n who (lowM L) sf) m (List.replicate m true)
def lvlUp (r : List Bool) (l : Int) (L : List Int) : Nat → List Int
  | 0 => L
  | k + 1 => if gb r k = true ∧ gi L k < 0 then (lvlUp r l L k).set k l else lvlUp r l L k
theorem lvlUp_len (r : List Bool) (l : Int) (L : List Int) (k : Nat) : (lvlUp r l L k).length = L.length := by
  induction k with
  | zero => rfl
  | succ k ih => unfold lvlUp; split <;> simp [ih]
theorem gi_set_ne {xs : List Int} {i j : Nat} {b : Int} (h : i ≠ j) : gi (xs.set i b) j = gi xs j := by
  unfold gi
  rw [List.getD_eq_getElem?_getD, List.getD_eq_getElem?_getD, List.getElem?_set_ne h]
theorem lvlUp_at {r : List Bool} {l : Int} {L : List Int} {j : Nat} : ∀ {k : Nat}, k ≤ j → gi (lvlUp r l L k) j = gi L j
  | 0, _ => rfl
  | k + 1, h => by
    unfold lvlUp
    split
    · rw [gi_set_ne (by omega), lvlUp_at (by omega)]
    · exact lvlUp_at (by omega)
theorem lvlUp_hit {r : List Bool} {l : Int} {L : List Int} {k : Nat} (h1 : gb r k = true) (h2 : gi L k < 0) : lvlUp r l L (k + 1) = (lvlUp r l L k).set k l := by rw [lvlUp, if_pos ⟨h1, h2⟩]
theorem lvlUp_off {r : List Bool} {l : Int} {L : List Int} {k : Nat} (h : ¬ (gb r k = true ∧ gi L k < 0)) : lvlUp r l L (k + 1) = lvlUp r l L k := by rw [lvlUp, if_neg h]
theorem lvlUp_lt {r : List Bool} {l : Int} {L : List Int} {k : Nat} (hl : 0 ≤ l) (hk : k < L.length) (h1 : gb r k = true) (h2 : gi L k < 0) : negs (lvlUp r l L (k + 1)) < negs (lvlUp r l L k) := by
  rw [lvlUp_hit h1 h2]
  exact negs_set (by rw [lvlUp_len]; exact hk) (by rw [lvlUp_at (Nat.le_refl _)]; exact h2) hl
theorem lvlUp_le {r : List Bool} {l : Int} {L : List Int} (hl : 0 ≤ l) : ∀ {k : Nat}, k ≤ L.length → negs (lvlUp r l L k) ≤ negs L
  | 0, _ => Nat.le_refl _
  | k + 1, h => by
    have ih := lvlUp_le (r := r) hl (show k ≤ L.length by omega)
    by_cases e : gb r k = true ∧ gi L k < 0
    · have := lvlUp_lt hl (show k < L.length by omega) e.1 e.2
      omega
    · rw [lvlUp_off e]; exact ih
def noNew (r : List Bool) (L : List Int) (k : Nat) : Prop := ∀ j, j < k → ¬ (gb r j = true ∧ gi L j < 0)
theorem lvlUp_none {r : List Bool} {l : Int} {L : List Int} : ∀ {k : Nat}, noNew r L k → lvlUp r l L k = L
  | 0, _ => rfl
  | k + 1, h => by rw [lvlUp_off (h k (by omega)), lvlUp_none fun j hj => h j (by omega)]
noncomputable def lvls (o : List Int) (n : List (List Int)) (who : Int) (sf : List Bool) (m : Nat) : Nat → List Int
  | 0 => negL m
  | t + 1 => lvlUp (lvlSet o n who sf m (lvls o n who sf m t)) t (lvls o n who sf m t) m
theorem lvls_len (o : List Int) (n : List (List Int)) (who : Int) (sf : List Bool) (m t : Nat) : (lvls o n who sf m t).length = m := by
  induction t with
  | zero => exact negL_len m
  | succ t ih => rw [lvls, lvlUp_len, ih]
def isLvl (o : List Int) (n : List (List Int)) (who : Int) (sf : List Bool) (m : Nat) (L : List Int) : Prop := ∃ t, L = lvls o n who sf m t ∧ noNew (lvlSet o n who sf m L) L m
theorem lvls_fix {o : List Int} {n : List (List Int)} {who : Int} {sf : List Bool} {m t : Nat} (h : noNew (lvlSet o n who sf m (lvls o n who sf m t)) (lvls o n who sf m t) m) : ∀ d, lvls o n who sf m (t + d) = lvls o n who sf m t
  | 0 => rfl
  | d + 1 => by rw [← Nat.add_assoc, lvls, lvls_fix h d, lvlUp_none h]
theorem isLvl.eq {o : List Int} {n : List (List Int)} {who : Int} {sf : List Bool} {m : Nat} {r r' : List Int} (h : isLvl o n who sf m r) (h' : isLvl o n who sf m r') : r = r' := by
  obtain ⟨t, rfl, hf⟩ := h
  obtain ⟨t', rfl, hf'⟩ := h'
  rcases Nat.le_total t t' with hl | hl
  · have := lvls_fix hf (t' - t)
    rw [show t + (t' - t) = t' from by omega] at this
    exact this.symm
  · have := lvls_fix hf' (t - t')
    rw [show t' + (t - t') = t from by omega] at this
    exact this
noncomputable def lvlE (o : List Int) (n : List (List Int)) (who : Int) (sf : List Bool) (m : Nat) : List Int := @Classical.epsilon _ ⟨[]⟩ (isLvl o n who sf m)
theorem isLvl.is {o : List Int} {n : List (List Int)} {who : Int} {sf : List Bool} {m : Nat} {r : List Int} (h : isLvl o n who sf m r) : r = lvlE o n who sf m := h.eq (@Classical.epsilon_spec _ (isLvl o n who sf m) ⟨r, h⟩)
theorem isLvl.len {o : List Int} {n : List (List Int)} {who : Int} {sf : List Bool} {m : Nat} {r : List Int} (h : isLvl o n who sf m r) : r.length = m := by
  obtain ⟨t, rfl, _⟩ := h
  exact lvls_len _ _ _ _ _ _
/-- there is an end -/
theorem lvlE_ex (o : List Int) (n : List (List Int)) (who : Int) (sf : List Bool) (m : Nat) : ∃ r, isLvl o n who sf m r := by
  have key : ∀ c t, negs (lvls o n who sf m t) ≤ c → ∃ r, isLvl o n who sf m r := by
    intro c
    induction c with
    | zero =>
      intro t ht
      refine ⟨_, t, rfl, fun j hj ⟨_, h2⟩ => ?_⟩
      have := negs_set (x := 0) (by rw [lvls_len]; exact hj) h2 (Int.le_refl _)
      omega
    | succ c ih =>
      intro t ht
      by_cases e : noNew (lvlSet o n who sf m (lvls o n who sf m t)) (lvls o n who sf m t) m
      · exact ⟨_, t, rfl, e⟩
      · refine ih (t + 1) ?_
        have hx : ∃ j, j < m ∧ gb (lvlSet o n who sf m (lvls o n who sf m t)) j = true ∧ gi (lvls o n who sf m t) j < 0 := by
          refine Classical.byContradiction fun hne => e fun j hj h => hne ⟨j, hj, h⟩
        obtain ⟨j, hj, h1, h2⟩ := hx
        have hl := lvls_len o n who sf m t
        have a := lvlUp_lt (r := lvlSet o n who sf m (lvls o n who sf m t)) (l := t) (L := lvls o n who sf m t) (k := j) (by omega) (by omega) h1 h2
        have b := lvlUp_le (r := lvlSet o n who sf m (lvls o n who sf m t)) (l := (t : Int)) (L := lvls o n who sf m t) (by omega) (k := j) (by omega)
        have mono : ∀ d, j + 1 + d ≤ m → negs (lvlUp (lvlSet o n who sf m (lvls o n who sf m t)) t (lvls o n who sf m t) (j + 1 + d)) ≤ negs (lvlUp (lvlSet o n who sf m (lvls o n who sf m t)) t (lvls o n who sf m t) (j + 1)) := by
          intro d
          induction d with
          | zero => intro _; exact Nat.le_refl _
          | succ d ihd =>
            intro hd
            have := ihd (by omega)
            by_cases e2 : gb (lvlSet o n who sf m (lvls o n who sf m t)) (j + 1 + d) = true ∧ gi (lvls o n who sf m t) (j + 1 + d) < 0
            · have := lvlUp_lt (r := lvlSet o n who sf m (lvls o n who sf m t)) (l := t) (L := lvls o n who sf m t) (k := j + 1 + d) (by omega) (by omega) e2.1 e2.2
              rw [← Nat.add_assoc]; omega
            · rw [← Nat.add_assoc, lvlUp_off e2]; exact this
        have c := mono (m - (j + 1)) (by omega)
        rw [show j + 1 + (m - (j + 1)) = m by omega] at c
        rw [lvls]
        omega
  exact key _ 0 (Nat.le_refl _)
noncomputable def levelsL (o : List Int) (n : List (List Int)) (who : Int) (s : List Int) : List Int := lvlE o n who (mkM o.length s) o.length
theorem levelsL_len (o : List Int) (n : List (List Int)) (who : Int) (s : List Int) : (levelsL o n who s).length = o.length := by
  obtain ⟨r, h⟩ := lvlE_ex o n who (mkM o.length s) o.length
  unfold levelsL
  rw [← h.is]
  exact h.len
theorem negs_neg (n : Nat) : negs (negL n) ≤ n := by
  have := negs_le (negL n)
  rw [negL_len] at this
  exact this
end Go.Proofs.Ytblmcmccdeelgaa
namespace Go.Proofs.Ytblmcmccdeelgaa
open Go.RowKit

end Go.Proofs.Ytblmcmccdeelgaa
namespace Go.Proofs.Ytblmcmccdeelgaa
open Go.RowKit

set_option maxRecDepth 100000 in
set_option maxHeartbeats 1600000 in
theorem staysFn (A0 A1 D X Y : Option Addr) (n0 c0 n1 c1 d dx dy : Nat) (o : List Int) (n : List (List Int)) (who : Int) (v : Nat) (ms x sf : List Bool) (ba bw bl bs : Nat) (w : World) (B : Nat) (hB : B ≤ w.heap.size) (hba : Box w ba 30 #[.slice A0 n0 c0, .slice A1 n1 c1]) (hbw : w.cell? ⟨bw, 0, none⟩ = some (.int .i64 who))
    (hbl : w.cell? ⟨bl, 0, none⟩ = some (.slice X n0 dx)) (hbs : w.cell? ⟨bs, 0, none⟩ = some (.slice Y n0 dy))
    (ha : RI w A0 n0 c0 o) (hb : RII w A1 n1 c1 n) (hm : RB w D n0 d ms) (hx : RB w X n0 dx x) (hy : RB w Y n0 dy sf) (hf : fineAr o n) (hv : v < n0) :
    Calls Try.prog 50 #[.int .i64 (v : Int), .slice D n0 d, .pointer (some ⟨ba, 0, none⟩), .pointer (some ⟨bw, 0, none⟩), .pointer (some ⟨bl, 0, none⟩), .pointer (some ⟨bs, 0, none⟩)] w fun e w' => e = .returned (.bool (keptL o n who x sf ms v)) ∧ Below B w w' := by
  have q0 := hba.d0; have q1 := hba.d1
  have hcall := moves A0 A1 X n0 c0 n1 c1 n0 dx o n who v x w _ (Nat.le_refl _) ha hb hx hf hv rfl
  have hc2 := fun w1 (hb1 : Below w.heap.size w w1) => moves A0 A1 D n0 c0 n1 c1 n0 d o n who v ms w1 _ (Nat.le_refl _) (ha.keep (keeps_below hb1)) (hb.keep (keeps_below hb1)) (hm.keep (keeps_below hb1)) hf hv rfl
  have HC2 := Lib.hid hc2
  clear hc2
  obtain ⟨by', oy, rfl, hcy⟩ := hy.at_ hv
  have hdy := hy.cap; have hdt := hy.top
  cases h1 : intoB o n who x v with
  | true =>
    rw [h1] at hcall
    have E := Lib.hid (keptL_1 (sf := sf) (r := ms) h1)
    clear h1
    go_enter Try.func50, Try.ntmps50
    go_wp2_with fail
    refine hcall.mono ?_; rintro e w1 ⟨rfl, hb1⟩
    go_wp2
    go_ret
    exact ⟨ret_b E.out.symm, hb1.mono hB⟩
  | false =>
    rw [h1] at hcall
    cases h2 : gb sf v with
    | false =>
      rw [h2] at hcy
      have E := Lib.hid (keptL_2 (r := ms) h1 h2)
      clear h1 h2
      go_enter Try.func50, Try.ntmps50
      go_wp2_with fail
      refine hcall.mono ?_; rintro e w1 ⟨rfl, hb1⟩
      have k := keeps_below hb1
      have r1 := k _ _ hbs; have r2 := k _ _ hcy
      clear k
      go_wp2
      go_ret
      exact ⟨ret_b E.out.symm, hb1.mono hB⟩
    | true =>
      rw [h2] at hcy
      have E := Lib.hid (keptL_3 (r := ms) h1 h2 rfl)
      clear h1 h2
      go_enter Try.func50, Try.ntmps50
      go_wp2_with fail
      refine hcall.mono ?_; rintro e w1 ⟨rfl, hb1⟩
      have k := keeps_below hb1
      have r1 := k _ _ hbs; have r2 := k _ _ hcy; have r3 := k _ _ hbw
      have r4 := (hba.below hb1 hba.lt).d0; have r5 := (hba.below hb1 hba.lt).d1
      clear k
      go_wp2_with fail
      refine (HC2.out _ hb1).mono ?_; rintro e w2 ⟨rfl, hb2⟩
      go_wp2
      go_ret
      exact ⟨ret_b E.out.symm, (below_then hb2 hb1.size hb1).mono hB⟩
theorem staysFn_enter (args : Array Value) (w : World) : (callFunc 50 args).run Try.prog w = .ok (.enter 50 args) w := by kernel_rfl

set_option maxRecDepth 100000 in
set_option maxHeartbeats 3200000 in
theorem staysLevels (A0 A1 C : Option Addr) (n0 c0 n1 c1 k d : Nat) (o : List Int) (n : List (List Int)) (who : Int) (s : List Int) (w : World) (B : Nat) (hB : B ≤ w.heap.size) (ha : RI w A0 n0 c0 o) (hb : RII w A1 n1 c1 n) (hs : RI w C k d s) (hf : fineAr o n) (hst : setB s o.length = true) :
    Calls Try.prog 28 #[.agg #[.slice A0 n0 c0, .slice A1 n1 c1], .int .i64 who, .slice C k d] w fun e w' => ∃ v, e = .returned v ∧ OI 2 w' B v (levelsL o n who s) ∧ Below B w w' := by
  have hmf : ∀ (fn : Fn) (first cap : Array Value) (w : World), (Instr.makeFunc fn first cap).run Try.prog w = .ok (.func fn first cap) w := fun _ _ _ _ => rfl
  have HL := Lib.hid ha.len
  have hm0 : 0 < n0 := by have := hf.1; rw [HL.out] at this; omega
  have hm1 : n0 ≤ 256 := by have := hf.2.1; rw [HL.out] at this; omega
  have hset : setB s (n0 : Int) = true := by rw [← HL.out]; exact hst
  have HSET := Lib.hid hset
  have HS := Lib.hid (show levelsL o n who s = lvlE o n who (mkM n0 s) n0 by unfold levelsL; rw [HL.out])
  have HF := Lib.hid hf
  have hba : Below w.heap.size w ((w.alloc (.cells #[.slice A0 n0 c0, .slice A1 n1 c1] 30)).alloc (.cells #[.int .i64 who] 2)) := below_alloc (Nat.le_refl _) (below_alloc (Nat.le_refl _) (Below.refl _ _))
  have bx := (Box.new w 30 #[.slice A0 n0 c0, .slice A1 n1 c1]).alloc (.cells #[.int .i64 who] 2)
  have bw : Box ((w.alloc (.cells #[.slice A0 n0 c0, .slice A1 n1 c1] 30)).alloc (.cells #[.int .i64 who] 2)) (w.heap.size + 1) 2 #[.int .i64 who] := Box.new' (by simp)
  have hz0 : w.heap.size + 2 = ((w.alloc (.cells #[.slice A0 n0 c0, .slice A1 n1 c1] 30)).alloc (.cells #[.int .i64 who] 2)).heap.size := by simp
  have q0 := bx.d0; have q1 := bx.d1
  clear hf hst hset
  go_enter Try.func28, Try.ntmps28
  go_wp2_with fail
  generalize ((w.alloc (.cells #[.slice A0 n0 c0, .slice A1 n1 c1] 30)).alloc (.cells #[.int .i64 who] 2)) = W at *
  replace hz0 : w.heap.size + 2 ≤ W.heap.size := by omega
  refine (noPlan _ _ _ _ _ _ _ _ (Nat.le_refl _) (by omega)).mono ?_; rintro e w1 ⟨v1, rfl, ho, hb1⟩
  obtain ⟨g8, c8, rfl⟩ := ho.form2 (by rw [negL_len]; omega)
  rw [negL_len] at ho ⊢
  have hg8 := ho.lt g8 rfl
  replace bx := bx.below hb1 bx.lt
  replace bw := bw.below hb1 bw.lt
  have hw := below_then hb1 hba.size hba
  clear q0 q1 hba
  have q0 := bx.d0; have q1 := bx.d1
  go_wp2_with fail
  clear q0 q1
  refine (markOf _ _ _ _ _ _ _ _ _ s _ _ (Nat.le_refl _) (hs.keep (keeps_below hw)) HSET.out (by omega)).mono ?_; rintro e w2 ⟨v2, rfl, hsf, hb2⟩
  obtain ⟨gS, cS, rfl⟩ := hsf.form2 (by rw [mkM_len]; omega)
  rw [mkM_len] at hsf ⊢
  have hgS := hsf.lt gS rfl
  replace ho := ho.below hb2
  replace bx := bx.below hb2 bx.lt
  replace bw := bw.below hb2 bw.lt
  replace hw := below_then hb2 hw.size hw
  clear hb1 hb2
  go_wp2 --CUT
  have hbS : Below w2.heap.size w2 (w2.alloc (.cells #[.slice (some ⟨gS, 0, none⟩) n0 cS] 49)) := below_alloc (Nat.le_refl _) (Below.refl _ _)
  have bs := Box.new w2 49 #[.slice (some ⟨gS, 0, none⟩) n0 cS]
  replace ho := (ho.below hbS).more (lo' := w.heap.size + 2) (by omega)
  replace hsf := (hsf.below hbS).more (lo' := w.heap.size + 2) (by omega)
  replace bx := bx.below hbS bx.lt
  replace bw := bw.below hbS bw.lt
  replace hw := below_then hbS hw.size hw
  clear hbS
  obtain ⟨hg8a, hg8b⟩ := hg8
  obtain ⟨hgSa, hgSb⟩ := hgS
  generalize (w2.alloc (.cells #[.slice (some ⟨gS, 0, none⟩) n0 cS] 49)) = W2 at *
  generalize w2.heap.size = bS at *
  go_loopg [9] (n0 + 1) (fun gk lv wr => ∃ (t : Nat) (L : List Int), lv = .int .i64 t ∧ L = lvls o n who (mkM n0 s) n0 t ∧ t + negs L ≤ n0 ∧ negs L + 1 ≤ gk ∧ OI 2 wr (w.heap.size + 2) (.slice (some ⟨g8, 0, none⟩) n0 c8) (L) ∧ OB 4 wr (w.heap.size + 2) (.slice (some ⟨gS, 0, none⟩) n0 cS) (mkM n0 s) ∧ Box wr w.heap.size 30 #[.slice A0 n0 c0, .slice A1 n1 c1] ∧ Box wr (w.heap.size + 1) 2 #[.int .i64 who] ∧ Box wr bS 49 #[.slice (some ⟨gS, 0, none⟩) n0 cS] ∧ Below w.heap.size w wr)
  case atStart => exact ⟨0, negL n0, rfl, rfl, by have := negs_neg n0; omega, by have := negs_neg n0; omega, ho, hsf, bx, bw, bs, hw⟩
  case round =>
    clear ho hsf bx bw bs hw
    obtain ⟨t, L, rfl, hLt, hneg, hgk, ho, hsf, bx, bw, bs, hw⟩ := hrel
    have hLl : L.length = n0 := by rw [hLt, lvls_len]
    have ht : t ≤ 256 := by omega
    have HLT := Lib.hid hLt; have HNEG := Lib.hid hneg; have HGK := Lib.hid hgk; have HLL := Lib.hid hLl
    clear hLt hneg hgk hLl
    obtain ⟨wl, rfl⟩ : ∃ wl : World, wl = wr := ⟨_, rfl⟩
    have hbSl := bs.lt
    go_wp2_with (first
      | (refine wpList_makeB rfl (.tmp 24) rfl _ n0 rfl (by omega) ?_
         intro w3 hx hb3
         replace ho := ho.below hb3
         replace hsf := hsf.below hb3
         replace bx := bx.below hb3 bx.lt
         replace bw := bw.below hb3 bw.lt
         replace bs := bs.below hb3 bs.lt
         replace hw := below_then hb3 hw.size hw
         have hgl : wl.heap.size < w3.heap.size := (hx.lt _ rfl).2
         replace hx := hx.more (lo' := w.heap.size + 2) (by omega)
         clear hb3)
      | (refine wpList_makeB rfl (.tmp 27) rfl _ n0 rfl (by omega) ?_
         intro w4 hal hb4
         have hbL : Below w3.heap.size w3 (w3.alloc (.cells #[.slice (some ⟨wl.heap.size, 0, none⟩) n0 n0] 49)) := below_alloc (Nat.le_refl _) (Below.refl _ _)
         have bl := (Box.new w3 49 #[.slice (some ⟨wl.heap.size, 0, none⟩) n0 n0]).below hb4 (by simp)
         have hzz : (w3.alloc (.cells #[.slice (some ⟨wl.heap.size, 0, none⟩) n0 n0] 49)).heap.size = w3.heap.size + 1 := by simp
         have hbM := below_then hb4 hbL.size hbL
         rw [hzz] at hal
         try rw [hzz]
         clear hb4 hbL hzz
         replace ho := ho.below hbM
         replace hsf := hsf.below hbM
         replace hx := hx.below hbM
         replace bx := bx.below hbM bx.lt
         replace bw := bw.below hbM bw.lt
         replace bs := bs.below hbM bs.lt
         replace hw := below_then hbM hw.size hw
         replace hal := hal.more (lo' := w.heap.size + 2) (by omega)
         clear hbM))
    generalize wl.heap.size = gl' at *
    generalize w3.heap.size = bL at *
    go_loopw [31] (fun i wr => ∃ j : Nat, j ≤ n0 ∧ i = .int .i64 j ∧ OB 4 wr (w.heap.size + 2) (.slice (some ⟨gl', 0, none⟩) n0 n0) (fillB (fun q => decide (0 ≤ gi L q)) n0 j) ∧ OB 4 wr (w.heap.size + 2) (.slice (some ⟨(bL + 1), 0, none⟩) n0 n0) (fillB (fun _ => true) n0 j) ∧ Box wr bL 49 #[.slice (some ⟨gl', 0, none⟩) n0 n0] ∧ OI 2 wr (w.heap.size + 2) (.slice (some ⟨g8, 0, none⟩) n0 c8) (L) ∧ OB 4 wr (w.heap.size + 2) (.slice (some ⟨gS, 0, none⟩) n0 cS) (mkM n0 s) ∧ Box wr w.heap.size 30 #[.slice A0 n0 c0, .slice A1 n1 c1] ∧ Box wr (w.heap.size + 1) 2 #[.int .i64 who] ∧ Box wr bS 49 #[.slice (some ⟨gS, 0, none⟩) n0 cS] ∧ Below w.heap.size w wr) (fun i _ => n0 - (intOf i).toNat)
    case atStart => exact ⟨0, Nat.zero_le _, rfl, by rw [fillB_zero]; exact hx, by rw [fillB_zero]; exact hal, bl, ho, hsf, bx, bw, bs, hw⟩
    case round =>
      clear hx hal bl ho hsf bx bw bs hw
      obtain ⟨j, hj, rfl, hx, hal, bl, ho, hsf, bx, bw, bs, hw⟩ := hrel
      by_cases hlt : j < n0
      · have hcx := hx.atx (i := j) (by rw [fillB_len]; exact hlt)
        have hfx := hx.hot (i := j) (by rw [fillB_len])
        have hca := hal.atx (i := j) (by rw [fillB_len]; exact hlt)
        have hfa := hal.hot (i := j) (by rw [fillB_len])
        have hco := ho.cellAt (i := j) (by rw [HLL.out]; exact hlt)
        have q2 : wr.cell? ⟨bL, 0, none⟩ = some (.slice (some ⟨gl', 0, none⟩) n0 n0) := bl.cell 0
        have HX := Lib.hid (fillB_put (f := fun q => decide (0 ≤ gi L q)) hlt)
        have HA := Lib.hid (fillB_put (f := fun _ => true) hlt)
        have hji : (j : Int) < (n0 : Int) := by omega
        have hj0 : (0 : Int) ≤ (j : Int) := by omega
        go_wp2
        go_region
        go_wp2
        go_roundw
        case rel =>
          refine ⟨j + 1, by omega, by go_num, ?_, ?_, ?_, ?_, ?_, ?_, ?_, ?_, ?_⟩
          · rw [← HX.out]; exact (hx.set_ (by rw [fillB_len]) _).off (by show gl' ≠ bL + 1; omega) _
          · rw [← HA.out]; exact (hal.off (by show bL + 1 ≠ gl'; omega) _).set_ (by rw [fillB_len]) _
          · exact (bl.far (by show bL ≠ gl'; omega) _).far (by show bL ≠ bL + 1; omega) _
          · exact (ho.off (by show g8 ≠ gl'; omega) _).off (by show g8 ≠ bL + 1; omega) _
          · exact (hsf.off (by show gS ≠ gl'; omega) _).off (by show gS ≠ bL + 1; omega) _
          · exact (bx.far (by show w.heap.size ≠ gl'; omega) _).far (by show w.heap.size ≠ bL + 1; omega) _
          · exact (bw.far (by show w.heap.size + 1 ≠ gl'; omega) _).far (by show w.heap.size + 1 ≠ bL + 1; omega) _
          · exact (bs.far (by show bS ≠ gl'; omega) _).far (by show bS ≠ bL + 1; omega) _
          · repeat (first | with_reducible exact hw | with_reducible refine below_drewN ?_ _ | with_reducible refine Below.drew ?_ | refine below_set (p := ⟨bL + 1, j, none⟩) (by show w.heap.size ≤ bL + 1; omega) ?_ | refine below_set (p := ⟨gl', j, none⟩) (by show w.heap.size ≤ gl'; omega) ?_)
        case measure => simp [intOf]; omega
      · obtain rfl : j = n0 := by omega
        rw [fillB_true] at hal
        rw [lowM_fill HLL.out] at hx
        have q0 := bx.d0; have q1 := bx.d1
        go_wp2_with fail
        clear q0 q1
        have HGS := greatestSet (keptL o n who (lowM L) (mkM j s)) 50 #[.pointer (some ⟨w.heap.size, 0, none⟩), .pointer (some ⟨w.heap.size + 1, 0, none⟩), .pointer (some ⟨bL, 0, none⟩), .pointer (some ⟨bS, 0, none⟩)] A0 A1 (some ⟨bL + 1, 0, none⟩) j c0 n1 c1 j j (List.replicate j true) wr _ (Nat.le_refl _) hal.reads hm0 (by omega) staysFn_enter (fun w' A c r v hbw hr hv => staysFn A0 A1 A _ _ j c0 n1 c1 c j cS o n who v r (lowM L) (mkM j s) w.heap.size (w.heap.size + 1) bL bS w' _ (Nat.le_refl _) (bx.below hbw bx.lt) ((bw.below hbw bw.lt).cell 0) ((bl.below hbw bl.lt).cell 0) ((bs.below hbw bs.lt).cell 0) ((ha.keep (keeps_below hw)).keep (keeps_below hbw)) ((hb.keep (keeps_below hw)).keep (keeps_below hbw)) hr (hx.reads.keep (keeps_below hbw)) (hsf.reads.keep (keeps_below hbw)) HF.out hv)
        refine HGS.mono ?_
        clear HGS
        rintro e w5 ⟨v5, rfl, hr, hrl, hb5⟩
        have HGE := Lib.hid (show lvlSet o n who (mkM j s) j L = gfp (keptL o n who (lowM L) (mkM j s)) j (List.replicate j true) from rfl)
        generalize hG : gfp (keptL o n who (lowM L) (mkM j s)) j (List.replicate j true) = R at *
        clear hG
        obtain ⟨gR, cR, rfl⟩ := hr.form2 (by omega)
        rw [hrl] at hr ⊢
        have hgR : wr.heap.size ≤ gR := (hr.lt _ rfl).1
        have hbLw := bl.lt
        have HRL := Lib.hid hrl
        clear hrl
        replace ho := ho.below hb5
        replace hsf := hsf.below hb5
        replace hx := hx.below hb5
        replace bx := bx.below hb5 bx.lt
        replace bw := bw.below hb5 bw.lt
        replace bs := bs.below hb5 bs.lt
        replace bl := bl.below hb5 bl.lt
        replace hr := hr.more (lo' := w.heap.size + 2) (by omega)
        replace hw := below_then hb5 hw.size hw
        clear hal hb5
        go_wp2
        go_loopw [14, 52] (fun x i wr => ∃ (q : Nat) (fl : Bool), q ≤ j ∧ i = .int .i64 q ∧ x = .bool fl ∧ (fl = false → noNew R L q) ∧ (fl = true → negs (lvlUp R t L q) < negs L) ∧ OI 2 wr (w.heap.size + 2) (.slice (some ⟨g8, 0, none⟩) j c8) (lvlUp R t L q) ∧ OB 4 wr (w.heap.size + 2) (.slice (some ⟨gl', 0, none⟩) j j) (lowM L) ∧ OB 4 wr (w.heap.size + 2) (.slice (some ⟨gR, 0, none⟩) j cR) (R) ∧ Box wr bL 49 #[.slice (some ⟨gl', 0, none⟩) j j] ∧ OB 4 wr (w.heap.size + 2) (.slice (some ⟨gS, 0, none⟩) j cS) (mkM j s) ∧ Box wr w.heap.size 30 #[.slice A0 j c0, .slice A1 n1 c1] ∧ Box wr (w.heap.size + 1) 2 #[.int .i64 who] ∧ Box wr bS 49 #[.slice (some ⟨gS, 0, none⟩) j cS] ∧ Below w.heap.size w wr) (fun _ i _ => j - (intOf i).toNat)
        case atStart => exact ⟨0, false, Nat.zero_le _, rfl, rfl, fun _ q hq => absurd hq (by omega), by simp, ho, hx, hr, bl, hsf, bx, bw, bs, hw⟩
        case round =>
          clear hx hr bl ho hsf bx bw bs hw
          obtain ⟨q, fl, hq, rfl, rfl, h1, h2, ho, hx, hr, bl, hsf, bx, bw, bs, hw⟩ := hrel
          have H1 := Lib.hid h1; have H2 := Lib.hid h2
          clear h1 h2
          have HUL := Lib.hid (show (lvlUp R t L q).length = j by rw [lvlUp_len, HLL.out])
          by_cases hlt : q < j
          · have hc := hr.atx (i := q) (by rw [HRL.out]; exact hlt)
            have hcx := hx.atx (i := q) (by rw [lowM_len, HLL.out]; exact hlt)
            have hco := ho.cellAt (i := q) (by rw [HUL.out]; exact hlt)
            have hfo := ho.hot (i := q) (by rw [HUL.out])
            have q2 : wr.cell? ⟨bL, 0, none⟩ = some (.slice (some ⟨gl', 0, none⟩) j j) := bl.cell 0
            rw [lowM_at (by rw [HLL.out]; exact hlt)] at hcx
            cases hgb : gb R q with
            | false =>
              rw [hgb] at hc
              have HX := Lib.hid (lvlUp_off (l := (t : Int)) (L := L) (fun h => by have := h.1.symm.trans hgb; cases this))
              have HN := Lib.hid (show ¬ (gb R q = true ∧ gi L q < 0) from fun h => by have := h.1.symm.trans hgb; cases this)
              clear hgb
              go_wp2
              go_roundw
              case rel => exact ⟨q + 1, fl, by omega, by go_num, rfl, fun h => all_succ (H1.out h) HN.out, by rw [HX.out]; exact H2.out, by rw [HX.out]; exact ho, hx, hr, bl, hsf, bx, bw, bs, hw⟩
              case measure => simp [intOf]; omega
            | true =>
              rw [hgb] at hc
              by_cases hge : 0 ≤ gi L q
              · rw [decide_eq_true hge] at hcx
                have HX := Lib.hid (lvlUp_off (l := (t : Int)) (L := L) (show ¬ (gb R q = true ∧ gi L q < 0) from fun h => by omega))
                have HN := Lib.hid (show ¬ (gb R q = true ∧ gi L q < 0) from fun h => by omega)
                clear hgb hge
                go_wp2
                go_roundw
                case rel => exact ⟨q + 1, fl, by omega, by go_num, rfl, fun h => all_succ (H1.out h) HN.out, by rw [HX.out]; exact H2.out, by rw [HX.out]; exact ho, hx, hr, bl, hsf, bx, bw, bs, hw⟩
                case measure => simp [intOf]; omega
              · rw [decide_eq_false hge] at hcx
                have hlt2 : gi L q < 0 := by omega
                have HX := Lib.hid (lvlUp_hit (l := (t : Int)) hgb hlt2)
                have HD := Lib.hid (lvlUp_lt (r := R) (l := (t : Int)) (L := L) (k := q) (by omega) (by rw [HLL.out]; exact hlt) hgb hlt2)
                have HE2 := Lib.hid (lvlUp_le (r := R) (l := (t : Int)) (L := L) (by omega) (k := q) (by rw [HLL.out]; omega))
                clear hgb hge hlt2
                go_wp2
                go_roundw
                case rel =>
                  refine ⟨q + 1, true, by omega, by go_num, rfl, by simp, fun _ => by have := HD.out; have := HE2.out; omega, ?_, hx.off (by show gl' ≠ g8; omega) _, hr.off (by show gR ≠ g8; omega) _, bl.far (by show bL ≠ g8; omega) _, hsf.off (by show gS ≠ g8; omega) _, bx.far (by show w.heap.size ≠ g8; omega) _, bw.far (by show w.heap.size + 1 ≠ g8; omega) _, bs.far (by show bS ≠ g8; omega) _, below_set (by show w.heap.size ≤ g8; omega) hw⟩
                  rw [HX.out]; exact ho.set_ (by rw [HUL.out]) _
                case measure => simp [intOf]; omega
          · obtain rfl : q = j := by omega
            cases fl with
            | false =>
              have HZ2 := Lib.hid (lvlUp_none (l := (t : Int)) (H1.out rfl))
              have HIS := Lib.hid (show isLvl o n who (mkM q s) q L from ⟨t, HLT.out, by rw [HGE.out]; exact H1.out rfl⟩)
              go_wp2
              go_ret
              exact ⟨_, rfl, by rw [HS.out, ← HIS.out.is, ← HZ2.out]; exact ho.more (by omega), hw.mono hB⟩
            | true =>
              go_wp2
              go_roundg (negs (lvlUp R t L q) + 1)
              case rel => exact ⟨t + 1, lvlUp R t L q, by go_num, by rw [lvls, ← HLT.out, HGE.out], by have := H2.out (by simp); have := HNEG.out; omega, Nat.le_refl _, ho, hsf, bx, bw, bs, hw⟩
              case measure => have := H2.out (by simp); have := HGK.out; omega
end Go.Proofs.Ytblmcmccdeelgaa
namespace Go.Proofs.Ytblmcmccdeelgaa
open Go.RowKit

noncomputable def staysWonR (o : List Int) (n : List (List Int)) (who : Int) (s : List Int) : List Int := if okA o n who s = true then wonUp (levelsL o n who s) o.length else []
set_option maxRecDepth 100000 in
set_option maxHeartbeats 400000 in
theorem implStaysWon (s0 s1 : Value) (z : ArD) (who : Int) (C : Option Addr) (m d : Nat) (s : List Int) (w : World) (B : Nat) (hB : B ≤ w.heap.size) (ha : RAv w s0 s1 z.1 z.2) (hs : RI w C m d s) :
    Calls Try.prog 14 #[.agg #[s0, s1], .int .i64 who, .slice C m d] w fun e w' => ∃ v, e = .returned v ∧ OI 2 w' B v (staysWonR z.1 z.2 who s) ∧ Below B w w' := by
  obtain ⟨A0, n0, c0, A1, n1, c1, rfl, rfl⟩ := ha.form
  have hr := ha.ri; have hrr := ha.rii
  have HL := Lib.hid hr.len
  have hba : Below w.heap.size w (w.alloc (.cells #[.slice A0 n0 c0, .slice A1 n1 c1] 30)) := below_alloc (Nat.le_refl _) (Below.refl _ _)
  have bx := Box.new w 30 #[.slice A0 n0 c0, .slice A1 n1 c1]
  have q0 := bx.d0; have q1 := bx.d1
  cases h : okA z.1 z.2 who s with
  | false =>
    have E := Lib.hid (show staysWonR z.1 z.2 who s = [] from if_neg (by rw [h]; simp))
    go_enter Try.func14, Try.ntmps14
    go_wp2_with fail
    refine (canAttract _ _ _ _ _ _ _ _ _ _ _ _ _ _ _ (Nat.le_refl _) (hr.keep (keeps_below hba)) (hrr.keep (keeps_below hba)) (hs.keep (keeps_below hba))).mono ?_; rintro e w1 ⟨rfl, hb1'⟩
    have hb1 := below_then hb1' hba.size hba
    go_wp2
    go_ret
    exact ⟨_, rfl, by rw [E.out]; exact OI.nil _ _ _, hb1.mono hB⟩
  | true =>
    obtain ⟨h1, h2, h3⟩ := okA_parts h
    have E := Lib.hid (show staysWonR z.1 z.2 who s = wonUp (levelsL z.1 z.2 who s) n0 from (if_pos h).trans (by rw [HL.out]))
    have HF := Lib.hid (fineAr_of h1)
    have hn0 : n0 ≤ 256 := by have := HF.out.2.1; rw [HL.out] at this; omega
    have hll : (levelsL z.1 z.2 who s).length = n0 := by rw [levelsL_len, HL.out]
    clear h1 h2
    go_enter Try.func14, Try.ntmps14
    go_wp2_with fail
    refine (canAttract _ _ _ _ _ _ _ _ _ _ _ _ _ _ _ (Nat.le_refl _) (hr.keep (keeps_below hba)) (hrr.keep (keeps_below hba)) (hs.keep (keeps_below hba))).mono ?_; rintro e w1 ⟨rfl, hb1'⟩
    have hb1 := below_then hb1' hba.size hba
    have bx1 := bx.below hb1' bx.lt
    have q10 := bx1.d0; have q11 := bx1.d1
    have bxE := bx1.alloc (.cells #[] 2)
    have qE0 := bxE.d0; have qE1 := bxE.d1
    go_wp2_with fail
    clear qE0 qE1
    have hem := OI.empty (E := 2) (w := w1) (B := w.heap.size + 1) bx1.lt
    have hbE : Below w1.heap.size w1 (w1.alloc (.cells #[] 2)) := below_alloc (Nat.le_refl _) (Below.refl _ _)
    have hwE := below_then hbE hb1.size hb1
    refine (staysLevels _ _ _ _ _ _ _ _ _ _ _ _ _ _ _ (Nat.le_refl _) (hr.keep (keeps_below hwE)) (hrr.keep (keeps_below hwE)) (hs.keep (keeps_below hwE)) HF.out h3).mono ?_; rintro e w2 ⟨v, rfl, ho, hb2⟩
    have hw2 := below_then hb2 hwE.size hwE
    have hem2 := hem.below hb2
    have hz2 : w.heap.size + 1 ≤ w2.heap.size := by have := hb2.size; have := hbE.size; have := bx1.lt; omega
    have hlo : w.heap.size + 1 ≤ w1.heap.size := bx1.lt
    have hlo2 : (w1.alloc (.cells #[] 2)).heap.size = w1.heap.size + 1 := by simp
    have hb1s := hb2.size
    rw [hlo2] at ho
    obtain ⟨Av, cv, rfl⟩ := ho.form
    rw [hll] at ho ⊢
    have hrd := ho.reads
    have HLL := Lib.hid hll
    clear hll q0 q1 q10 q11 hba
    have bc := hrd.cap; have bt := hrd.top
    go_wp2
    go_loopw [7, 21] (fun x i wr => ∃ k : Nat, k ≤ n0 ∧ i = .int .i64 k ∧ OI 2 wr (w.heap.size + 1) x (wonUp (levelsL z.1 z.2 who s) k) ∧ (∀ b, x.ownBlock = some b → b = w1.heap.size ∨ w2.heap.size ≤ b) ∧ Chg (fun b => b = w1.heap.size) w2 wr) (fun _ i _ => n0 - (intOf i).toNat)
    case atStart => exact ⟨0, Nat.zero_le _, rfl, hem2, fun b hb => by have hb' : some (w1.heap.size) = some b := hb; injection hb' with e; exact .inl e.symm, Chg.refl _ _⟩
    case round =>
      obtain ⟨k, hk, rfl, hx, hxb, hch⟩ := hrel
      have hup : (wonUp (levelsL z.1 z.2 who s) k).length ≤ k := pick_len _ _ _
      have hsz := hch.size
      by_cases hlt : k < n0
      · have ho' := ho.chg hch (fun b hb hs => by have := (ho.lt b hb).1; omega)
        obtain ⟨bb, off, rfl, hc⟩ := ho'.reads.at_ hlt
        by_cases hp : 0 ≤ gi (levelsL z.1 z.2 who s) k
        · have HX := Lib.hid (show wonUp (levelsL z.1 z.2 who s) (k + 1) = wonUp (levelsL z.1 z.2 who s) k ++ [(k : Int)] from pick_yes (decide_eq_true hp))
          have hd : decide (0 ≤ gi (levelsL z.1 z.2 who s) k) = true := decide_eq_true hp
          go_wp2_with (refine wpList_pushI rfl (.tmp 28) (.tmp 30) rfl _ _ _ (wonUp (levelsL z.1 z.2 who s) k) rfl hx _ rfl (by omega) (by omega) ?_; intro v2 w2' ho2 hb2' hc2 hat2)
          go_roundw
          case rel => exact ⟨k + 1, by omega, by go_num, by rw [HX.out]; exact ho2, fun b hb => (hat2 b hb).elim (hxb b) (fun h => .inr (by omega)), hch.push hc2 hxb⟩
          case measure => simp [intOf]; omega
        · have HX := Lib.hid (show wonUp (levelsL z.1 z.2 who s) (k + 1) = wonUp (levelsL z.1 z.2 who s) k from pick_no (decide_eq_false hp))
          have hd : decide (0 ≤ gi (levelsL z.1 z.2 who s) k) = false := decide_eq_false hp
          go_wp2
          go_roundw
          case rel => exact ⟨k + 1, by omega, by go_num, by rw [HX.out]; exact hx, hxb, hch⟩
          case measure => simp [intOf]; omega
      · obtain rfl : k = n0 := by omega
        go_wp2
        go_ret
        exact ⟨_, rfl, by rw [E.out]; exact hx.more (by omega), (hw2.mono hB).trans (hch.below (by omega) (fun b hb => by omega))⟩

end Go.Proofs.Ytblmcmccdeelgaa
namespace Go.Proofs.Ytblmcmccdeelgaa
open Go.RowKit

def alLess (L : List Int) (v u : Nat) : Bool := gb (lowM L) u && decide (gi L u < gi L v)
def alSame (L : List Int) (v u : Nat) : Bool := gi L u == gi L v
def planV (o : List Int) (n : List (List Int)) (who : Int) (L : List Int) (v : Nat) : Int := if leastV o n who (lowM L) (alLess L) v < 0 then leastV o n who (lowM L) (alSame L) v else leastV o n who (lowM L) (alLess L) v
noncomputable def staysPlanR (o : List Int) (n : List (List Int)) (who : Int) (s : List Int) : List Int := if okA o n who s = true then fill (planV o n who (levelsL o n who s)) o.length else []
set_option maxRecDepth 100000 in
theorem spFn1 (A D : Option Addr) (n0 c d : Nat) (L : List Int) (v u b1 b2 : Nat) (w : World) (h1 : w.cell? ⟨b1, 0, none⟩ = some (.slice D n0 d)) (h2 : w.cell? ⟨b2, 0, none⟩ = some (.slice A n0 c)) (hm : RB w D n0 d (lowM L)) (hL : RI w A n0 c L) (hv : v < n0) (hu : u < n0) :
    Calls Try.prog 37 #[.int .i64 (v : Int), .int .i64 (u : Int), .pointer (some ⟨b1, 0, none⟩), .pointer (some ⟨b2, 0, none⟩)] w fun e w' => e = .returned (.bool (alLess L v u)) ∧ Below w.heap.size w w' := by
  obtain ⟨bD, oD, rfl, hcD⟩ := hm.at_ hu
  obtain ⟨bA, oA, rfl, hcu⟩ := hL.at_ hu
  obtain ⟨bA2, oA2, hA2, hcv⟩ := hL.at_ hv
  injection hA2 with hA2
  injection hA2 with hA3 hA4
  subst hA3; subst hA4
  have hvi : (v : Int) < (n0 : Int) := by omega
  have hui : (u : Int) < (n0 : Int) := by omega
  have hv0 : (0 : Int) ≤ (v : Int) := by omega
  have hu0 : (0 : Int) ≤ (u : Int) := by omega
  cases hg : gb (lowM L) u with
  | false =>
    have E := Lib.hid (show alLess L v u = false by unfold alLess; rw [hg]; rfl)
    rw [hg] at hcD
    clear hg
    go_enter Try.func37, Try.ntmps37
    go_wp2
    go_quiet (fail)
    go_wp2
    go_ret
    exact ⟨ret_b E.out.symm, by repeat (first | with_reducible assumption | with_reducible exact Below.refl _ _ | with_reducible refine below_drewN ?_ _ | with_reducible refine Below.drew ?_ | with_reducible refine below_alloc (Nat.le_refl _) ?_)⟩
  | true =>
    have E := Lib.hid (show alLess L v u = decide (gi L u < gi L v) by unfold alLess; rw [hg]; rfl)
    rw [hg] at hcD
    clear hg
    go_enter Try.func37, Try.ntmps37
    go_wp2
    go_quiet (fail)
    go_wp2
    go_ret
    exact ⟨ret_b E.out.symm, by repeat (first | with_reducible assumption | with_reducible exact Below.refl _ _ | with_reducible refine below_drewN ?_ _ | with_reducible refine Below.drew ?_ | with_reducible refine below_alloc (Nat.le_refl _) ?_)⟩
theorem spFn1_enter (args : Array Value) (w : World) : (callFunc 37 args).run Try.prog w = .ok (.enter 37 args) w := by kernel_rfl
set_option maxRecDepth 100000 in
theorem spFn2 (A : Option Addr) (n0 c : Nat) (L : List Int) (v u b2 : Nat) (w : World) (h2 : w.cell? ⟨b2, 0, none⟩ = some (.slice A n0 c)) (hL : RI w A n0 c L) (hv : v < n0) (hu : u < n0) :
    Calls Try.prog 38 #[.int .i64 (v : Int), .int .i64 (u : Int), .pointer (some ⟨b2, 0, none⟩)] w fun e w' => e = .returned (.bool (alSame L v u)) ∧ Below w.heap.size w w' := by
  obtain ⟨bA, oA, rfl, hcu⟩ := hL.at_ hu
  obtain ⟨bA2, oA2, hA2, hcv⟩ := hL.at_ hv
  injection hA2 with hA2
  injection hA2 with hA3 hA4
  subst hA3; subst hA4
  have hvi : (v : Int) < (n0 : Int) := by omega
  have hui : (u : Int) < (n0 : Int) := by omega
  have hv0 : (0 : Int) ≤ (v : Int) := by omega
  have hu0 : (0 : Int) ≤ (u : Int) := by omega
  go_enter Try.func38, Try.ntmps38
  go_wp2
  go_quiet (fail)
  go_wp2
  go_ret
  exact ⟨rfl, by repeat (first | with_reducible assumption | with_reducible exact Below.refl _ _ | with_reducible refine below_drewN ?_ _ | with_reducible refine Below.drew ?_ | with_reducible refine below_alloc (Nat.le_refl _) ?_)⟩
theorem spFn2_enter (args : Array Value) (w : World) : (callFunc 38 args).run Try.prog w = .ok (.enter 38 args) w := by kernel_rfl


set_option maxRecDepth 100000 in
set_option maxHeartbeats 1600000 in
theorem implStaysPlan (s0 s1 : Value) (z : ArD) (who : Int) (C : Option Addr) (m d : Nat) (s : List Int) (w : World) (B : Nat) (hB : B ≤ w.heap.size) (ha : RAv w s0 s1 z.1 z.2) (hs : RI w C m d s) :
    Calls Try.prog 20 #[.agg #[s0, s1], .int .i64 who, .slice C m d] w fun e w' => ∃ v, e = .returned v ∧ OI 2 w' B v (staysPlanR z.1 z.2 who s) ∧ Below B w w' := by
  have hmf : ∀ (fn : Fn) (first cap : Array Value) (w : World), (Instr.makeFunc fn first cap).run Try.prog w = .ok (.func fn first cap) w := fun _ _ _ _ => rfl
  obtain ⟨A0, n0, c0, A1, n1, c1, rfl, rfl⟩ := ha.form
  have hr := ha.ri; have hrr := ha.rii
  have HL := Lib.hid hr.len
  have hba : Below w.heap.size w (w.alloc (.cells #[.slice A0 n0 c0, .slice A1 n1 c1] 30)) := below_alloc (Nat.le_refl _) (Below.refl _ _)
  have bx := Box.new w 30 #[.slice A0 n0 c0, .slice A1 n1 c1]
  have q0 := bx.d0; have q1 := bx.d1
  cases h : okA z.1 z.2 who s with
  | false =>
    have E := Lib.hid (show staysPlanR z.1 z.2 who s = [] from if_neg (by rw [h]; simp))
    go_enter Try.func20, Try.ntmps20
    go_wp2_with fail
    refine (canAttract _ _ _ _ _ _ _ _ _ _ _ _ _ _ _ (Nat.le_refl _) (hr.keep (keeps_below hba)) (hrr.keep (keeps_below hba)) (hs.keep (keeps_below hba))).mono ?_; rintro e w1 ⟨rfl, hb1'⟩
    have hb1 := below_then hb1' hba.size hba
    go_wp2
    go_ret
    exact ⟨_, rfl, by rw [E.out]; exact OI.nil _ _ _, hb1.mono hB⟩
  | true =>
    obtain ⟨h1, h2, h3⟩ := okA_parts h
    have E := Lib.hid (show staysPlanR z.1 z.2 who s = fill (planV z.1 z.2 who (levelsL z.1 z.2 who s)) n0 from (if_pos h).trans (by rw [HL.out]))
    have HF := Lib.hid (fineAr_of h1)
    have hm0 : 0 < n0 := by have := HF.out.1; rw [HL.out] at this; omega
    have hn0 : n0 ≤ 256 := by have := HF.out.2.1; rw [HL.out] at this; omega
    have hll : (levelsL z.1 z.2 who s).length = n0 := by rw [levelsL_len, HL.out]
    clear h1 h2
    go_enter Try.func20, Try.ntmps20
    go_wp2_with fail
    refine (canAttract _ _ _ _ _ _ _ _ _ _ _ _ _ _ _ (Nat.le_refl _) (hr.keep (keeps_below hba)) (hrr.keep (keeps_below hba)) (hs.keep (keeps_below hba))).mono ?_; rintro e w1 ⟨rfl, hb1'⟩
    have hw := below_then hb1' hba.size hba
    replace bx := bx.below hb1' bx.lt
    clear q0 q1
    have q0 := bx.d0; have q1 := bx.d1
    go_wp2_with fail
    refine (staysLevels _ _ _ _ _ _ _ _ _ _ _ _ _ _ _ (Nat.le_refl _) (hr.keep (keeps_below hw)) (hrr.keep (keeps_below hw)) (hs.keep (keeps_below hw)) HF.out h3).mono ?_; rintro e w2 ⟨v, rfl, ho, hb2⟩
    obtain ⟨gL, cL, rfl⟩ := ho.form2 (by omega)
    rw [hll] at ho ⊢
    have hgL : w1.heap.size ≤ gL ∧ gL < w2.heap.size := ho.lt gL rfl
    have hz1 := bx.lt
    replace bx := bx.below hb2 bx.lt
    replace hw := below_then hb2 hw.size hw
    have HLL := Lib.hid hll
    generalize hGL : (levelsL z.1 z.2 who s) = L at *
    have HGL := Lib.hid hGL
    clear hll hGL q0 q1 hba hb1' hb2
    have hbA : Below w2.heap.size w2 (w2.alloc (.cells #[.slice (some ⟨gL, 0, none⟩) n0 cL] 27)) := below_alloc (Nat.le_refl _) (Below.refl _ _)
    have bl := Box.new w2 27 #[.slice (some ⟨gL, 0, none⟩) n0 cL]
    have hzA : (w2.alloc (.cells #[.slice (some ⟨gL, 0, none⟩) n0 cL] 27)).heap.size = w2.heap.size + 1 := by simp
    have q2 : (w2.alloc (.cells #[.slice (some ⟨gL, 0, none⟩) n0 cL] 27)).cell? ⟨w2.heap.size, 0, none⟩ = some (.slice (some ⟨gL, 0, none⟩) n0 cL) := bl.cell 0
    go_wp2_with (refine wpList_makeB rfl (.tmp 25) rfl _ n0 rfl (by omega) ?_; intro w3 hin hb3; rw [hzA] at hin; (try rw [hzA]); have q3 : ∀ o, (w3.alloc o).cell? ⟨w2.heap.size, 0, none⟩ = some (.slice (some ⟨gL, 0, none⟩) n0 cL) := fun o => keepA ((bl.below hb3 bl.lt).cell 0))
    clear q3
    have hbB := below_then hb3 hbA.size hbA
    replace ho := ho.below hbB
    replace bl := bl.below hb3 bl.lt
    replace bx := bx.below hbB bx.lt
    replace hw := below_then hbB hw.size hw
    have hz3 : w2.heap.size + 1 < w3.heap.size := (hin.lt _ rfl).2
    clear hbA hzA q2 hb3 hbB
    have hbC : Below w3.heap.size w3 (w3.alloc (.cells #[.slice (some ⟨w2.heap.size + 1, 0, none⟩) n0 n0] 49)) := below_alloc (Nat.le_refl _) (Below.refl _ _)
    have bi := Box.new w3 49 #[.slice (some ⟨w2.heap.size + 1, 0, none⟩) n0 n0]
    replace ho := (ho.below hbC).more (lo' := w.heap.size + 1) (by omega)
    replace bl := bl.below hbC bl.lt
    replace bx := bx.below hbC bx.lt
    replace hin := (hin.below hbC).more (lo' := w.heap.size + 1) (by omega)
    replace hw := below_then hbC hw.size hw
    generalize (w3.alloc (.cells #[.slice (some ⟨w2.heap.size + 1, 0, none⟩) n0 n0] 49)) = W at *
    clear hbC
    obtain ⟨hgLa, hgLb⟩ := hgL
    generalize w3.heap.size = bI at *
    generalize w2.heap.size = bL at *
    go_loopw [29] (fun i wr => ∃ j : Nat, j ≤ n0 ∧ i = .int .i64 j ∧ OB 4 wr (w.heap.size + 1) (.slice (some ⟨bL + 1, 0, none⟩) n0 n0) (fillB (fun q => decide (0 ≤ gi L q)) n0 j) ∧ OI 2 wr (w.heap.size + 1) (.slice (some ⟨gL, 0, none⟩) n0 cL) L ∧ Box wr bL 27 #[.slice (some ⟨gL, 0, none⟩) n0 cL] ∧ Box wr bI 49 #[.slice (some ⟨bL + 1, 0, none⟩) n0 n0] ∧ Box wr w.heap.size 30 #[.slice A0 n0 c0, .slice A1 n1 c1] ∧ Below w.heap.size w wr) (fun i _ => n0 - (intOf i).toNat)
    case atStart => exact ⟨0, Nat.zero_le _, rfl, by rw [fillB_zero]; exact hin, ho, bl, bi, bx, hw⟩
    case round =>
      clear hin ho bl bi bx hw
      obtain ⟨j, hj, rfl, hin, ho, bl, bi, bx, hw⟩ := hrel
      by_cases hlt : j < n0
      · have hco := ho.cellAt (i := j) (by rw [HLL.out]; exact hlt)
        have hcx := hin.atx (i := j) (by rw [fillB_len]; exact hlt)
        have hfx := hin.hot (i := j) (by rw [fillB_len])
        have q2 : wr.cell? ⟨bI, 0, none⟩ = some (.slice (some ⟨bL + 1, 0, none⟩) n0 n0) := bi.cell 0
        have HX := Lib.hid (fillB_put (f := fun q => decide (0 ≤ gi L q)) hlt)
        go_wp2
        go_roundw
        case rel =>
          exact ⟨j + 1, by omega, by go_num, by rw [← HX.out]; exact hin.set_ (by rw [fillB_len]) _, ho.off (by show gL ≠ bL + 1; omega) _, bl.far (by show bL ≠ bL + 1; omega) _, bi.far (by show bI ≠ bL + 1; omega) _, bx.far (by show w.heap.size ≠ bL + 1; omega) _, below_set (by show w.heap.size ≤ bL + 1; omega) hw⟩
        case measure => simp [intOf]; omega
      · obtain rfl : j = n0 := by omega
        rw [lowM_fill HLL.out] at hin
        have q0 := bx.d0; have q1 := bx.d1
        have q2 : wr.cell? ⟨bI, 0, none⟩ = some (.slice (some ⟨bL + 1, 0, none⟩) j j) := bi.cell 0
        go_wp2_with fail
        clear q0 q1 q2
        have HGS := firstMoves (alLess L) 37 #[.pointer (some ⟨bI, 0, none⟩), .pointer (some ⟨bL, 0, none⟩)] A0 A1 (some ⟨bL + 1, 0, none⟩) j c0 n1 c1 j j z.1 z.2 who (lowM L) wr _ (Nat.le_refl _) (hr.keep (keeps_below hw)) (hrr.keep (keeps_below hw)) hin.reads HF.out rfl spFn1_enter (fun w' v u hbw hv hu => spFn1 _ _ j cL j L v u bI bL w' ((bi.below hbw bi.lt).cell 0) ((bl.below hbw bl.lt).cell 0) (hin.reads.keep (keeps_below hbw)) (ho.reads.keep (keeps_below hbw)) hv hu)
        refine HGS.mono ?_
        clear HGS
        rintro e w5 ⟨v5, rfl, h5, hb5⟩
        have hl5 : (planL z.1 z.2 who (lowM L) (alLess L)).length = j := by unfold planL; rw [fill_len, HL.out]
        obtain ⟨g5, c5, rfl⟩ := h5.form2 (by omega)
        rw [hl5] at h5 ⊢
        have hg5 : wr.heap.size ≤ g5 ∧ g5 < w5.heap.size := h5.lt g5 rfl
        have hz5 := bi.lt
        replace hin := hin.below hb5
        replace ho := ho.below hb5
        replace bl := bl.below hb5 bl.lt
        replace bi := bi.below hb5 bi.lt
        replace bx := bx.below hb5 bx.lt
        replace hw := below_then hb5 hw.size hw
        clear hb5
        have q0 := bx.d0; have q1 := bx.d1
        have q2 : w5.cell? ⟨bI, 0, none⟩ = some (.slice (some ⟨bL + 1, 0, none⟩) j j) := bi.cell 0
        go_wp2_with fail
        clear q0 q1 q2
        have HGS := firstMoves (alSame L) 38 #[.pointer (some ⟨bL, 0, none⟩)] A0 A1 (some ⟨bL + 1, 0, none⟩) j c0 n1 c1 j j z.1 z.2 who (lowM L) w5 _ (Nat.le_refl _) (hr.keep (keeps_below hw)) (hrr.keep (keeps_below hw)) hin.reads HF.out rfl spFn2_enter (fun w' v u hbw hv hu => spFn2 _ j cL L v u bL w' ((bl.below hbw bl.lt).cell 0) (ho.reads.keep (keeps_below hbw)) hv hu)
        refine HGS.mono ?_
        clear HGS
        rintro e w6 ⟨v6, rfl, h6, hb6⟩
        have hl6 : (planL z.1 z.2 who (lowM L) (alSame L)).length = j := by unfold planL; rw [fill_len, HL.out]
        obtain ⟨g6, c6, rfl⟩ := h6.form2 (by omega)
        rw [hl6] at h6 ⊢
        have hg6 : w5.heap.size ≤ g6 := (h6.lt g6 rfl).1
        replace h5 := h5.below hb6
        replace hw := below_then hb6 hw.size hw
        obtain ⟨hg5a, hg5b⟩ := hg5
        have hw1 : w.heap.size ≤ wr.heap.size := by omega
        have H5 := Lib.hid (show planL z.1 z.2 who (lowM L) (alLess L) = fillUp (planV z.1 z.2 who L) j (leastV z.1 z.2 who (lowM L) (alLess L)) 0 by unfold planL; rw [fillUp_zero, HL.out])
        rw [H5.out] at h5
        replace h5 := h5.more (lo' := w.heap.size) (by omega)
        replace h6 := h6.more (lo' := w.heap.size) (by omega)
        clear hin ho bl bi bx hb6
        go_wp2
        go_loopw [52] (fun i wq => ∃ k : Nat, k ≤ j ∧ i = .int .i64 k ∧ OI 2 wq w.heap.size (.slice (some ⟨g5, 0, none⟩) j c5) (fillUp (planV z.1 z.2 who L) j (leastV z.1 z.2 who (lowM L) (alLess L)) k) ∧ OI 2 wq w.heap.size (.slice (some ⟨g6, 0, none⟩) j c6) (planL z.1 z.2 who (lowM L) (alSame L)) ∧ Below w.heap.size w wq) (fun i _ => j - (intOf i).toNat)
        case atStart => exact ⟨0, Nat.zero_le _, rfl, h5, h6, hw⟩
        case round =>
          clear h5 h6 hw
          obtain ⟨k, hk, rfl, h5, h6, hw⟩ := hrel
          by_cases hlt : k < j
          · have hc5 := h5.cellAt (i := k) (by rw [fillUp_len]; exact hlt)
            have hf5 := h5.hot (i := k) (by rw [fillUp_len])
            have hc6 := h6.cellAt (i := k) (by rw [hl6]; exact hlt)
            rw [fillUp_at hlt, if_neg (Nat.lt_irrefl _)] at hc5
            have h6e : gi (planL z.1 z.2 who (lowM L) (alSame L)) k = leastV z.1 z.2 who (lowM L) (alSame L) k := by unfold planL; rw [fill_at (by rw [HL.out]; exact hlt)]
            rw [h6e] at hc6
            clear h6e
            by_cases hneg : leastV z.1 z.2 who (lowM L) (alLess L) k < 0
            · have HX := Lib.hid (fillUp_put (f := planV z.1 z.2 who L) (g := leastV z.1 z.2 who (lowM L) (alLess L)) hlt)
              have HV := Lib.hid (show planV z.1 z.2 who L k = leastV z.1 z.2 who (lowM L) (alSame L) k from if_pos hneg)
              go_wp2
              go_roundw
              case rel => exact ⟨k + 1, by omega, by go_num, by rw [← HX.out, HV.out]; exact h5.set_ (by rw [fillUp_len]) _, h6.off (by show g6 ≠ g5; omega) _, below_set (by show w.heap.size ≤ g5; omega) hw⟩
              case measure => simp [intOf]; omega
            · have HX := Lib.hid (fillUp_same (f := planV z.1 z.2 who L) (g := leastV z.1 z.2 who (lowM L) (alLess L)) (n := j) (k := k) (if_neg hneg))
              go_wp2
              go_roundw
              case rel => exact ⟨k + 1, by omega, by go_num, by rw [HX.out]; exact h5, h6, hw⟩
              case measure => simp [intOf]; omega
          · obtain rfl : k = j := by omega
            rw [fillUp_full] at h5
            go_wp2
            go_ret
            exact ⟨_, rfl, by rw [E.out]; exact h5.more (by omega), hw.mono hB⟩


end Go.Proofs.Ytblmcmccdeelgaa
namespace Go.Proofs.Ytblmcmccdeelgaa
open Go.RowKit

theorem lvlUp_full {r : List Bool} {l : Int} {L : List Int} {j : Nat} : ∀ {k : Nat}, j < k → k ≤ L.length → gi (lvlUp r l L k) j = if gb r j = true ∧ gi L j < 0 then l else gi L j
  | 0, h, _ => absurd h (by omega)
  | k + 1, h, hk => by
    by_cases e : j = k
    · subst e
      by_cases hc : gb r j = true ∧ gi L j < 0
      · rw [lvlUp_hit hc.1 hc.2, if_pos hc]
        have hl : j < (lvlUp r l L j).length := by rw [lvlUp_len]; omega
        unfold gi
        rw [List.getD_eq_getElem?_getD, List.getElem?_set_self hl]; rfl
      · rw [lvlUp_off hc, if_neg hc, lvlUp_at (Nat.le_refl _)]
    · by_cases hc : gb r k = true ∧ gi L k < 0
      · rw [lvlUp_hit hc.1 hc.2, gi_set_ne (by omega)]
        exact lvlUp_full (by omega) (by omega)
      · rw [lvlUp_off hc]
        exact lvlUp_full (by omega) (by omega)
section
variable {o : List Int} {n : List (List Int)} {who : Int} {sf : List Bool} {m : Nat}
theorem lvls_step {t j : Nat} (hj : j < m) : gi (lvls o n who sf m (t + 1)) j = if gb (lvlSet o n who sf m (lvls o n who sf m t)) j = true ∧ gi (lvls o n who sf m t) j < 0 then (t : Int) else gi (lvls o n who sf m t) j := by
  rw [lvls]
  exact lvlUp_full hj (by rw [lvls_len]; exact Nat.le_refl _)
theorem lvls_keep {t j : Nat} (hj : j < m) (h : 0 ≤ gi (lvls o n who sf m t) j) : ∀ d, gi (lvls o n who sf m (t + d)) j = gi (lvls o n who sf m t) j
  | 0 => rfl
  | d + 1 => by
    rw [← Nat.add_assoc, lvls_step hj, lvls_keep hj h d, if_neg (fun c => by omega)]
theorem lvls_lt {j : Nat} (hj : j < m) : ∀ {t : Nat}, gi (lvls o n who sf m t) j < (t : Int)
  | 0 => by
    rw [lvls]
    unfold negL
    rw [fill_at hj]; omega
  | t + 1 => by
    rw [lvls_step hj]
    have := lvls_lt hj (t := t)
    split <;> omega
theorem lvls_at {j l : Nat} (hj : j < m) : ∀ {t : Nat}, gi (lvls o n who sf m t) j = (l : Int) → l < t ∧ gb (lvlSet o n who sf m (lvls o n who sf m l)) j = true ∧ gi (lvls o n who sf m l) j < 0
  | 0, h => by
    rw [lvls] at h
    unfold negL at h
    rw [fill_at hj] at h; omega
  | t + 1, h => by
    rw [lvls_step hj] at h
    split at h
    · rename_i hc
      have e : t = l := by omega
      subst e
      exact ⟨Nat.lt_succ_self _, hc⟩
    · obtain ⟨h1, h2⟩ := lvls_at hj h
      exact ⟨by omega, h2⟩
theorem lvls_in {u l t : Nat} (hu : u < m) (hl : l < t) (h : gb (lvlSet o n who sf m (lvls o n who sf m l)) u = true) : 0 ≤ gi (lvls o n who sf m t) u ∧ gi (lvls o n who sf m t) u ≤ (l : Int) := by
  have h1 : 0 ≤ gi (lvls o n who sf m (l + 1)) u ∧ gi (lvls o n who sf m (l + 1)) u ≤ (l : Int) := by
    rw [lvls_step hu]
    have := lvls_lt hu (o := o) (n := n) (who := who) (sf := sf) (t := l)
    split
    · omega
    · rename_i hc
      have : ¬ gi (lvls o n who sf m l) u < 0 := fun c => hc ⟨h, c⟩
      omega
  have h2 := lvls_keep hu h1.1 (t - (l + 1))
  rw [show l + 1 + (t - (l + 1)) = t by omega] at h2
  rw [h2]; exact h1
theorem lvls_low {u l t : Nat} (hu : u < m) (hl : l < t) (h : gb (lowM (lvls o n who sf m l)) u = true) : 0 ≤ gi (lvls o n who sf m t) u ∧ gi (lvls o n who sf m t) u < (l : Int) := by
  rw [lowM_at (by rw [lvls_len]; exact hu)] at h
  have h0 := of_decide_eq_true h
  have h2 := lvls_keep hu h0 (t - l)
  rw [show l + (t - l) = t by omega] at h2
  rw [h2]
  exact ⟨h0, lvls_lt hu⟩
end
theorem levels_law {o : List Int} {n : List (List Int)} {who : Int} {s : List Int} {v k : Nat} (hf : fineAr o n) (hv : v < o.length) (hk : k < (gl n v).length) (h0 : 0 ≤ gi (levelsL o n who s) v)
    (hc : gi o v = who → planV o n who (levelsL o n who s) v = gi (gl n v) k) :
    0 ≤ gi (levelsL o n who s) (gi (gl n v) k).toNat ∧ gi (levelsL o n who s) (gi (gl n v) k).toNat ≤ gi (levelsL o n who s) v ∧ (gi (levelsL o n who s) (gi (gl n v) k).toNat = gi (levelsL o n who s) v → hasL s (v : Int) = true) := by
  obtain ⟨T, hT, hend⟩ : isLvl o n who (mkM o.length s) o.length (levelsL o n who s) := by
    obtain ⟨r, h⟩ := lvlE_ex o n who (mkM o.length s) o.length
    unfold levelsL
    rw [← h.is]; exact h
  obtain ⟨l, hl⟩ := Int.eq_ofNat_of_zero_le h0
  have hset := (hf.2.2.2 v hv).2.2
  have hin : ∀ j, j < (gl n v).length → (gi (gl n v) j).toNat < o.length ∧ ((gi (gl n v) j).toNat : Int) = gi (gl n v) j := fun j hj => setB_nat hset hj
  have hl' := hl
  rw [hT] at hl'
  obtain ⟨hlT, hR, hneg⟩ := lvls_at hv hl'
  have hkept := gfp_closed (by simp) hv hR
  -- what lies below, what lies within
  have low : ∀ u, u < o.length → gb (lowM (lvls o n who (mkM o.length s) o.length l)) u = true → 0 ≤ gi (levelsL o n who s) u ∧ gi (levelsL o n who s) u < (l : Int) := fun u hu h => by rw [hT]; exact lvls_low hu hlT h
  have inn : ∀ u, u < o.length → gb (lvlSet o n who (mkM o.length s) o.length (lvls o n who (mkM o.length s) o.length l)) u = true → 0 ≤ gi (levelsL o n who s) u ∧ gi (levelsL o n who s) u ≤ (l : Int) := fun u hu h => by rw [hT]; exact lvls_in hu hlT h
  have hcase : intoB o n who (lowM (lvls o n who (mkM o.length s) o.length l)) v = true ∨ (hasL s (v : Int) = true ∧ intoB o n who (lvlSet o n who (mkM o.length s) o.length (lvls o n who (mkM o.length s) o.length l)) v = true) := by
    unfold keptL at hkept
    rw [Bool.or_eq_true, Bool.and_eq_true] at hkept
    rcases hkept with h | ⟨h1, h2⟩
    · exact .inl h
    · exact .inr ⟨by rw [mkM_at hv] at h1; exact h1, h2⟩
  rw [hl]
  by_cases hown : gi o v = who
  · have hp := hc hown
    have hLL : (levelsL o n who s).length = o.length := levelsL_len _ _ _ _
    have hlow : gb (lowM (levelsL o n who s)) v = true := by rw [lowM_at (by rw [hLL]; exact hv)]; exact decide_eq_true h0
    have hge : ∀ j, j < (gl n v).length → 0 ≤ gi (gl n v) j := fun j hj => by have := (hin j hj).2; omega
    have e1 : leastV o n who (lowM (levelsL o n who s)) (alLess (levelsL o n who s)) v = firstU (alLess (levelsL o n who s) v) (gl n v) (gl n v).length := by unfold leastV; rw [if_pos ⟨hlow, hown⟩]
    have e2 : leastV o n who (lowM (levelsL o n who s)) (alSame (levelsL o n who s)) v = firstU (alSame (levelsL o n who s) v) (gl n v) (gl n v).length := by unfold leastV; rw [if_pos ⟨hlow, hown⟩]
    unfold planV at hp
    rw [e1, e2] at hp
    by_cases hx : firstU (alLess (levelsL o n who s) v) (gl n v) (gl n v).length < 0
    · rw [if_pos hx] at hp
      -- none is less: safe, and the same level
      have hno : ¬ ∃ j, j < (gl n v).length ∧ alLess (levelsL o n who s) v (gi (gl n v) j).toNat = true := fun h => by have := firstU_some hge h; omega
      have hsafe : hasL s (v : Int) = true := by
        rcases hcase with h | h
        · exfalso
          obtain ⟨j, hj, hg⟩ := (intoB_mine hown).1 h
          obtain ⟨b0, b1⟩ := low _ (hin j hj).1 hg
          refine hno ⟨j, hj, ?_⟩
          unfold alLess
          rw [lowM_at (by rw [hLL]; exact (hin j hj).1), decide_eq_true b0, Bool.true_and]
          exact decide_eq_true (by omega)
        · exact h.1
      have hg0 := hge k hk
      have hs := firstU_is (al := alSame (levelsL o n who s) v) (ns := gl n v) (k := (gl n v).length) (by rw [hp]; exact hg0)
      rw [hp] at hs
      unfold alSame at hs
      have hs' : gi (levelsL o n who s) (gi (gl n v) k).toNat = gi (levelsL o n who s) v := by simpa using hs
      rw [hs', hl]
      exact ⟨by omega, Int.le_refl _, fun _ => hsafe⟩
    · rw [if_neg hx] at hp
      have hs := firstU_is (al := alLess (levelsL o n who s) v) (ns := gl n v) (k := (gl n v).length) (by omega)
      rw [hp] at hs
      unfold alLess at hs
      rw [Bool.and_eq_true] at hs
      have h1 := of_decide_eq_true hs.2
      have h2 := hs.1
      rw [lowM_at (by rw [hLL]; exact (hin k hk).1)] at h2
      have h3 := of_decide_eq_true h2
      exact ⟨h3, by omega, fun e => by omega⟩
  · rcases hcase with h | ⟨h1, h⟩
    · have hg := (intoB_yours hown).1 h k hk
      obtain ⟨b0, b1⟩ := low _ (hin k hk).1 hg
      exact ⟨b0, by omega, fun e => by omega⟩
    · have hg := (intoB_yours hown).1 h k hk
      obtain ⟨b0, b1⟩ := inn _ (hin k hk).1 hg
      exact ⟨b0, b1, fun _ => h1⟩
end Go.Proofs.Ytblmcmccdeelgaa
namespace Go.Proofs.Ytblmcmccdeelgaa
open Go.RowKit

def oftA (ins : List Bool) (rk : List Int) (v u : Nat) : Bool := gb ins u && (gi rk v == 0 || gi rk u == gi rk v - 1)
noncomputable def oftPlanL (o : List Int) (n : List (List Int)) (who : Int) (goal : List Int) : List Int := planL o n who (mkM o.length (oftL o n who goal)) (oftA (mkM o.length (oftL o n who goal)) (ranksL o n who (oftL o n who goal) goal))
noncomputable def oftPlanR (o : List Int) (n : List (List Int)) (who : Int) (goal : List Int) : List Int := if okA o n who goal = true then oftPlanL o n who goal else []
section
variable {o : List Int} {n : List (List Int)} {who : Int} {goal : List Int}
theorem oft_fix (hf : fineAr o n) : attrL o n who (oftL o n who goal) goal = oftL o n who goal := by
  obtain ⟨k, e, h⟩ := oftL_is o n who goal
  exact (oft_end (oftL_set o n who goal) (by rw [e]; exact oftS_shut hf who goal k)).2 h
theorem rank_oft (hf : fineAr o n) {v : Nat} (hv : v < o.length) (h : gb (mkM o.length (oftL o n who goal)) v = true) : 0 ≤ gi (ranksL o n who (oftL o n who goal) goal) v := by
  have h1 := (mkM_iff hv).1 h
  rw [← oft_fix hf] at h1
  obtain ⟨u, _, hr, e⟩ := mem_attrL.1 h1
  have : u = v := by omega
  rw [← this]; exact hr
end
end Go.Proofs.Ytblmcmccdeelgaa
namespace Go.Proofs.Ytblmcmccdeelgaa
open Go.RowKit

section
variable {o : List Int} {n : List (List Int)} {who : Int} {goal : List Int}
/-! ### to be at a goal again and again -/
theorem oft_shut (hf : fineAr o n) : shut o n who (oftL o n who goal) := by
  obtain ⟨k, e, _⟩ := oftL_is o n who goal
  rw [e]
  exact oftS_shut hf who goal k
theorem oft_rank (hf : fineAr o n) {v : Nat} (hv : v < o.length) (hz : (v : Int) ∈ oftL o n who goal) : 0 ≤ gi (ranksL o n who (oftL o n who goal) goal) v := rank_oft hf hv ((mkM_iff hv).2 hz)
/-! ### to leave a goal for good -/
theorem planV_pos (hf : fineAr o n) {s : List Int} {v : Nat} (hv : v < o.length) (h0 : 0 ≤ gi (levelsL o n who s) v) (own : gi o v = who) : 0 ≤ planV o n who (levelsL o n who s) v := by
  obtain ⟨T, hT, hend⟩ : isLvl o n who (mkM o.length s) o.length (levelsL o n who s) := by
    obtain ⟨r, h⟩ := lvlE_ex o n who (mkM o.length s) o.length
    unfold levelsL
    rw [← h.is]; exact h
  obtain ⟨l, hl⟩ := Int.eq_ofNat_of_zero_le h0
  have hl' := hl
  rw [hT] at hl'
  obtain ⟨hlT, hR, hneg⟩ := lvls_at hv hl'
  have hkept := gfp_closed (by simp) hv hR
  have low : ∀ u, u < o.length → gb (lowM (lvls o n who (mkM o.length s) o.length l)) u = true → 0 ≤ gi (levelsL o n who s) u ∧ gi (levelsL o n who s) u < (l : Int) := fun u hu h => by rw [hT]; exact lvls_low hu hlT h
  have inn : ∀ u, u < o.length → gb (lvlSet o n who (mkM o.length s) o.length (lvls o n who (mkM o.length s) o.length l)) u = true → 0 ≤ gi (levelsL o n who s) u ∧ gi (levelsL o n who s) u ≤ (l : Int) := fun u hu h => by rw [hT]; exact lvls_in hu hlT h
  have nxt : ∀ i, i < (gl n v).length → (gi (gl n v) i).toNat < o.length := fun i hi => (row_nat hf hv hi).1
  have hLL : (levelsL o n who s).length = o.length := levelsL_len _ _ _ _
  have hlow : gb (lowM (levelsL o n who s)) v = true := by rw [lowM_at (by rw [hLL]; exact hv)]; exact decide_eq_true h0
  have e1 : leastV o n who (lowM (levelsL o n who s)) (alLess (levelsL o n who s)) v = firstU (alLess (levelsL o n who s) v) (gl n v) (gl n v).length := by unfold leastV; rw [if_pos ⟨hlow, own⟩]
  have e2 : leastV o n who (lowM (levelsL o n who s)) (alSame (levelsL o n who s)) v = firstU (alSame (levelsL o n who s) v) (gl n v) (gl n v).length := by unfold leastV; rw [if_pos ⟨hlow, own⟩]
  have hex : ∃ j, j < (gl n v).length ∧ 0 ≤ gi (levelsL o n who s) (gi (gl n v) j).toNat ∧ gi (levelsL o n who s) (gi (gl n v) j).toNat ≤ (l : Int) := by
    unfold keptL at hkept
    rw [Bool.or_eq_true, Bool.and_eq_true] at hkept
    rcases hkept with h | ⟨_, h⟩
    · obtain ⟨j, hj, hg⟩ := (intoB_mine own).1 h
      have := low _ (nxt j hj) hg
      exact ⟨j, hj, this.1, by omega⟩
    · obtain ⟨j, hj, hg⟩ := (intoB_mine own).1 h
      exact ⟨j, hj, inn _ (nxt j hj) hg⟩
  unfold planV
  rw [e1, e2]
  split
  · rename_i hneg1
    obtain ⟨j, hj, b0, b1⟩ := hex
    refine firstU_some (row_nonneg hf hv) ⟨j, hj, ?_⟩
    unfold alSame
    by_cases e : gi (levelsL o n who s) (gi (gl n v) j).toNat = gi (levelsL o n who s) v
    · simp [e]
    · exfalso
      have := firstU_some (al := alLess (levelsL o n who s) v) (row_nonneg hf hv) ⟨j, hj, by
        unfold alLess
        rw [lowM_at (by rw [hLL]; exact nxt j hj), decide_eq_true b0, Bool.true_and]
        exact decide_eq_true (by omega)⟩
      omega
  · omega
theorem planF_fine (hf : fineAr o n) (L : List Int) : fineP o n who (fill (planV o n who L) o.length) :=
  ⟨fill_len _ _, fun v hv => by
    rw [fill_at hv]
    unfold planV
    split
    · exact least_fine hf hv
    · exact least_fine hf hv⟩
/-! ### who cannot leave it for good can meet it again and again -/
theorem oft_sup {X : List Int} (hX : ∀ x, x ∈ X → 0 ≤ x ∧ x < o.length) (hs : shut o n who X) (ha : ∀ v : Nat, (v : Int) ∈ X → (v : Int) ∈ attrL o n who X goal) {v : Nat} (hv : (v : Int) ∈ X) : (v : Int) ∈ oftL o n who goal := by
  obtain ⟨k, e, _⟩ := oftL_is o n who goal
  rw [e]
  clear e
  have key : ∀ k x, x ∈ X → x ∈ oftS o n who goal k := by
    intro k
    induction k with
    | zero =>
      intro x hx
      obtain ⟨h0, h1⟩ := hX x hx
      have : ((x.toNat : Nat) : Int) ∈ allL o.length := all_mem (by omega)
      rwa [show ((x.toNat : Nat) : Int) = x by omega] at this
    | succ k ih =>
      intro x hx
      rw [oftS]
      refine stay_sup (t := X) hX hs (fun y hy => ?_) hx
      obtain ⟨b0, b1⟩ := hX y hy
      obtain ⟨u, rfl⟩ : ∃ u : Nat, y = (u : Int) := ⟨y.toNat, by omega⟩
      refine attr_ind (o := o) (n := n) (who := who) (inn := X) (goal := goal) (fun v => (v : Int) ∈ attrL o n who (oftS o n who goal k) goal) ?_ ?_ u (ha u hy)
      · intro v hv hg hi
        exact attr_goal hv hg (ih _ hi)
      · intro v R hv hi hR hp
        have hlt : ∀ w, gb (mkM o.length X) w = true → w < o.length := fun w hw => by have := gb_lt hw; rwa [mkM_len] at this
        refine attr_pull hv (ih _ hi) ?_
        unfold pulledB at hp ⊢
        by_cases own : gi o v = who
        · rw [if_pos own] at hp ⊢
          obtain ⟨i, hi', hg, h0⟩ := pSome_iff.1 hp
          have hl := hlt _ hg
          exact pSome_iff.2 ⟨i, hi', (mkM_iff hl).2 (ih _ ((mkM_iff hl).1 hg)), (attr_rank (hR _ hl h0)).2⟩
        · rw [if_neg own, Bool.and_eq_true] at hp ⊢
          have hy := (intoB_yours own).1 (hs v hv hi)
          obtain ⟨i, hi', hg⟩ := pIn_iff.1 hp.1
          have hl := hlt _ hg
          refine ⟨pIn_iff.2 ⟨i, hi', (mkM_iff hl).2 (ih _ ((mkM_iff hl).1 hg))⟩, pAll_iff.2 fun j hj _ => ?_⟩
          exact (attr_rank (hR _ (hlt _ (hy j hj)) (pAll_iff.1 hp.2 j hj (hy j hj)))).2
  exact key k _ hv
theorem mem_wonUp {L : List Int} {m : Nat} {x : Int} : x ∈ wonUp L m ↔ ∃ v : Nat, v < m ∧ 0 ≤ gi L v ∧ (v : Int) = x := by
  rw [show wonUp L m = pick (fun v => decide (0 ≤ gi L v)) (fun v => (v : Int)) m from rfl, mem_pick]
  simp only [decide_eq_true_iff]
theorem keptL_mono {x x' sf r r' : List Bool} {v : Nat} (hx : ∀ u, gb x u = true → gb x' u = true) (hr : ∀ u, gb r u = true → gb r' u = true) (h : keptL o n who x sf r v = true) : keptL o n who x' sf r' v = true := by
  unfold keptL at h ⊢
  rw [Bool.or_eq_true, Bool.and_eq_true] at h ⊢
  exact h.imp (intoB_mono hx) (And.imp id (intoB_mono hr))
theorem gb_all (m u : Nat) : gb (List.replicate m true) u = decide (u < m) := by
  unfold gb
  rw [List.getD_eq_getElem?_getD, List.getElem?_replicate]
  by_cases h : u < m <;> simp [h]
theorem levels_end (o : List Int) (n : List (List Int)) (who : Int) (s : List Int) : isLvl o n who (mkM o.length s) o.length (levelsL o n who s) := by
  obtain ⟨r, h⟩ := lvlE_ex o n who (mkM o.length s) o.length
  unfold levelsL
  rw [← h.is]; exact h
/-- a set each of whose vertices is kept, given the levels, has levels -/
theorem levels_top {s : List Int} {Y : List Bool} (hl : Y.length = o.length) (hY : ∀ v, gb Y v = true → keptL o n who (lowM (levelsL o n who s)) (mkM o.length s) Y v = true) {v : Nat} (hv : gb Y v = true) : 0 ≤ gi (levelsL o n who s) v := by
  obtain ⟨T, hT, hend⟩ := levels_end o n who s
  have hlt : ∀ u, gb Y u = true → u < o.length := fun u hu => by have := gb_lt hu; rwa [hl] at this
  have h := gfp_sup (kf := keptL o n who (lowM (levelsL o n who s)) (mkM o.length s)) (m := o.length) (ms := List.replicate o.length true) (Y := Y) (by simp) (fun Z v hZ => keptL_mono (fun u hu => hu) hZ) hY (fun u hu => by rw [gb_all]; exact decide_eq_true (hlt u hu)) hv
  refine Classical.byContradiction fun hc => hend v (hlt v hv) ⟨h, by omega⟩
theorem low_iff {s : List Int} {u : Nat} (hu : u < o.length) : gb (lowM (levelsL o n who s)) u = true ↔ 0 ≤ gi (levelsL o n who s) u := by
  rw [lowM_at (by rw [levelsL_len]; exact hu), decide_eq_true_iff]
theorem low_kept {s : List Int} {u : Nat} (hu : u < o.length) (h0 : 0 ≤ gi (levelsL o n who s) u) : keptL o n who (lowM (levelsL o n who s)) (mkM o.length s) (lowM (levelsL o n who s)) u = true := by
  obtain ⟨T, hT, hend⟩ := levels_end o n who s
  obtain ⟨l, hl⟩ := Int.eq_ofNat_of_zero_le h0
  rw [hT] at hl
  obtain ⟨hlT, hR, hneg⟩ := lvls_at hu hl
  have hkept := gfp_closed (by simp) hu hR
  refine keptL_mono (fun w hw => ?_) (fun w hw => ?_) hkept
  · have hwl : w < o.length := by have := gb_lt hw; rw [lowM_len, lvls_len] at this; exact this
    rw [low_iff hwl, hT]
    exact (lvls_low hwl hlT hw).1
  · have hwl : w < o.length := by have := gb_lt hw; unfold lvlSet at this; rw [gfp_len (by simp)] at this; exact this
    rw [low_iff hwl, hT]
    exact (lvls_in hwl hlT hw).1
theorem often_other (hf : fineAr o n) (hw : 0 ≤ who ∧ who ≤ 1) : wonUp (levelsL o n (1 - who) (otherL o.length goal)) o.length = otherL o.length (oftL o n who goal) := by
  have nxt : ∀ v, v < o.length → ∀ i, i < (gl n v).length → (gi (gl n v) i).toNat < o.length := fun v hv i hi => (row_nat hf hv hi).1
  have no : ∀ (l k v : Nat), v < o.length → (v : Int) ∈ oftL o n who goal → gi (levelsL o n (1 - who) (otherL o.length goal)) v = (l : Int) → gi (ranksL o n who (oftL o n who goal) goal) v = (k : Int) → False := by
    intro l
    induction l using Nat.strongRecOn with
    | ind l ihl =>
      intro k
      induction k using Nat.strongRecOn with
      | ind k ihk =>
        intro v hv hz hl hk
        obtain ⟨T, hT, hend⟩ := levels_end o n (1 - who) (otherL o.length goal)
        have hl' := hl
        rw [hT] at hl'
        obtain ⟨hlT, hR, hneg⟩ := lvls_at hv hl'
        have hkept := gfp_closed (by simp) hv hR
        have low : ∀ u, u < o.length → gb (lowM (lvls o n (1 - who) (mkM o.length (otherL o.length goal)) o.length l)) u = true → (u : Int) ∈ oftL o n who goal → False := fun u hu h hm => by
          have h1 := lvls_low hu hlT h
          rw [← hT] at h1
          obtain ⟨lu, hlu⟩ := Int.eq_ofNat_of_zero_le h1.1
          obtain ⟨k', hk'⟩ := Int.eq_ofNat_of_zero_le (oft_rank hf hu hm)
          exact ihl lu (by omega) k' u hu hm hlu hk'
        have inn : ∀ u, u < o.length → gb (lvlSet o n (1 - who) (mkM o.length (otherL o.length goal)) o.length (lvls o n (1 - who) (mkM o.length (otherL o.length goal)) o.length l)) u = true → (u : Int) ∈ oftL o n who goal → gi (ranksL o n who (oftL o n who goal) goal) u < (k : Int) → False := fun u hu h hm hr => by
          have h1 := lvls_in hu hlT h
          rw [← hT] at h1
          obtain ⟨lu, hlu⟩ := Int.eq_ofNat_of_zero_le h1.1
          obtain ⟨k', hk'⟩ := Int.eq_ofNat_of_zero_le (oft_rank hf hu hm)
          rcases Nat.lt_or_ge lu l with hx | hx
          · exact ihl lu hx k' u hu hm hlu hk'
          · have el : lu = l := by omega
            exact ihk k' (by omega) u hu hm (by rw [hlu, el]) hk'
        have hsh := oft_shut (who := who) (goal := goal) hf v hv hz
        unfold keptL at hkept
        rw [Bool.or_eq_true, Bool.and_eq_true] at hkept
        rcases hkept with h | ⟨hsf, h⟩
        · by_cases own : gi o v = who
          · obtain ⟨j, hj, hg⟩ := (intoB_mine own).1 hsh
            exact low _ (nxt v hv j hj) ((intoB_yours (show ¬ gi o v = 1 - who by omega)).1 h j hj) ((mkM_iff (nxt v hv j hj)).1 hg)
          · obtain ⟨j, hj, hg⟩ := (intoB_mine (show gi o v = 1 - who by have := (hf.2.2.2 v hv).1; omega)).1 h
            exact low _ (nxt v hv j hj) hg ((mkM_iff (nxt v hv j hj)).1 ((intoB_yours own).1 hsh j hj))
        · have hng := (other_iff hv).1 ((mkM_iff hv).1 hsf)
          have h0 : k ≠ 0 := fun e => hng (rank_zero (n := n) (who := who) (inn := oftL o n who goal) hv (by rw [hk, e]; rfl))
          obtain ⟨k, rfl⟩ : ∃ j, k = j + 1 := ⟨k - 1, by omega⟩
          obtain ⟨r1, r2⟩ := rank_step hv hk hf
          by_cases own : gi o v = who
          · obtain ⟨j, hj, hg, hr⟩ := r1 own
            exact inn _ (nxt v hv j hj) ((intoB_yours (show ¬ gi o v = 1 - who by omega)).1 h j hj) ((mkM_iff (nxt v hv j hj)).1 hg) (by rw [hr]; omega)
          · obtain ⟨j, hj, hg⟩ := (intoB_mine (show gi o v = 1 - who by have := (hf.2.2.2 v hv).1; omega)).1 h
            have hm := (intoB_yours own).1 hsh j hj
            have := (r2 own j hj hm).2
            exact inn _ (nxt v hv j hj) hg ((mkM_iff (nxt v hv j hj)).1 hm) (by omega)
  refine rises_ext (pick_rises fun i j h _ => by omega) (other_rises _ _) fun x => ?_
  constructor
  · intro hx
    obtain ⟨v, hv, h0, rfl⟩ := mem_wonUp.1 hx
    refine (other_iff hv).2 fun hz => ?_
    obtain ⟨l, hl⟩ := Int.eq_ofNat_of_zero_le h0
    obtain ⟨k, hk⟩ := Int.eq_ofNat_of_zero_le (oft_rank hf hv hz)
    exact no l k v hv hz hl hk
  · intro hx
    obtain ⟨v, hv, hh, rfl⟩ := mem_other.1 hx
    have hnz : ¬ (v : Int) ∈ oftL o n who goal := of_decide_eq_false hh
    refine mem_wonUp.2 ⟨v, hv, Classical.byContradiction fun hneg => hnz ?_, rfl⟩
    -- those without a level
    have mc : ∀ {u : Nat}, u < o.length → ((u : Int) ∈ otherL o.length (wonUp (levelsL o n (1 - who) (otherL o.length goal)) o.length) ↔ ¬ 0 ≤ gi (levelsL o n (1 - who) (otherL o.length goal)) u) := fun {u} hu => by
      rw [other_iff hu, mem_wonUp]
      constructor
      · exact fun h h0 => h ⟨u, hu, h0, rfl⟩
      · rintro h ⟨w, hw, h0, e⟩
        have : w = u := by omega
        subst this
        exact h h0
    have hsh : shut o n who (otherL o.length (wonUp (levelsL o n (1 - who) (otherL o.length goal)) o.length)) := by
      intro u hu hm
      have hn0 := (mc hu).1 hm
      have one : intoB o n (1 - who) (lowM (levelsL o n (1 - who) (otherL o.length goal))) u = true → False := fun h => by
        refine hn0 (levels_top (Y := mkM o.length [(u : Int)]) (mkM_len _ _) (fun w hw => ?_) ((mkM_iff hu).2 (by simp)))
        have hwl : w < o.length := by have := gb_lt hw; rwa [mkM_len] at this
        have : w = u := by have := (mkM_iff hwl).1 hw; simp at this; omega
        subst this
        exact keptL_1 h
      by_cases own : gi o u = who
      · refine (intoB_mine own).2 (Classical.byContradiction fun hno => one ?_)
        refine (intoB_yours (show ¬ gi o u = 1 - who by omega)).2 fun i hi => ?_
        refine (low_iff (nxt u hu i hi)).2 (Classical.byContradiction fun hc => hno ⟨i, hi, (mkM_iff (nxt u hu i hi)).2 ((mc (nxt u hu i hi)).2 hc)⟩)
      · refine (intoB_yours own).2 fun i hi => (mkM_iff (nxt u hu i hi)).2 ((mc (nxt u hu i hi)).2 fun hc => one ?_)
        exact (intoB_mine (show gi o u = 1 - who by have := (hf.2.2.2 u hu).1; omega)).2 ⟨i, hi, (low_iff (nxt u hu i hi)).2 hc⟩
    refine oft_sup (X := otherL o.length (wonUp (levelsL o n (1 - who) (otherL o.length goal)) o.length)) (fun x hx => set_mem (other_set _ _) hx) hsh ?_ ((mc hv).2 hneg)
    intro u hmu
    have hu : u < o.length := by have := set_mem (other_set _ _) hmu; omega
    refine Classical.byContradiction fun hna => (mc hu).1 hmu ?_
    -- what has a level, and what is not drawn to the goal
    have hYl : ((List.range o.length).map fun w => decide (0 ≤ gi (levelsL o n (1 - who) (otherL o.length goal)) w) || !hasL (attrL o n who (otherL o.length (wonUp (levelsL o n (1 - who) (otherL o.length goal)) o.length)) goal) (w : Int)).length = o.length := by simp
    have hYg : ∀ w, w < o.length → (gb ((List.range o.length).map fun w => decide (0 ≤ gi (levelsL o n (1 - who) (otherL o.length goal)) w) || !hasL (attrL o n who (otherL o.length (wonUp (levelsL o n (1 - who) (otherL o.length goal)) o.length)) goal) (w : Int)) w = true ↔ (0 ≤ gi (levelsL o n (1 - who) (otherL o.length goal)) w ∨ ¬ (w : Int) ∈ attrL o n who (otherL o.length (wonUp (levelsL o n (1 - who) (otherL o.length goal)) o.length)) goal)) := fun w hw => by
      rw [gb_get (by simpa using hw)]
      simp [hasL]
    generalize ((List.range o.length).map fun w => decide (0 ≤ gi (levelsL o n (1 - who) (otherL o.length goal)) w) || !hasL (attrL o n who (otherL o.length (wonUp (levelsL o n (1 - who) (otherL o.length goal)) o.length)) goal) (w : Int)) = Y at hYl hYg
    refine levels_top (Y := Y) hYl (fun w hw => ?_) ((hYg u hu).2 (.inr hna))
    have hwl : w < o.length := by have := gb_lt hw; rwa [hYl] at this
    have lowY : ∀ u, gb (lowM (levelsL o n (1 - who) (otherL o.length goal))) u = true → gb Y u = true := fun u hu => by
      have hul : u < o.length := by have := gb_lt hu; rw [lowM_len, levelsL_len] at this; exact this
      exact (hYg u hul).2 (.inl ((low_iff hul).1 hu))
    by_cases h0 : 0 ≤ gi (levelsL o n (1 - who) (otherL o.length goal)) w
    · exact keptL_mono (fun u hu => hu) lowY (low_kept hwl h0)
    · have hwn : ¬ (w : Int) ∈ attrL o n who (otherL o.length (wonUp (levelsL o n (1 - who) (otherL o.length goal)) o.length)) goal := ((hYg w hwl).1 hw).resolve_left h0
      have hwc := (mc hwl).2 h0
      have hng : ¬ (w : Int) ∈ goal := fun hg => hwn (attr_goal hwl hg hwc)
      have hsafe : gb (mkM o.length (otherL o.length goal)) w = true := (mkM_iff hwl).2 ((other_iff hwl).2 hng)
      have hrow := (hf.2.2.2 w hwl).2.1.1
      -- each way out leads to a level, or to what is drawn, or to what is not
      by_cases own : gi o w = who
      · unfold keptL
        rw [hsafe, Bool.true_and, Bool.or_eq_true]
        refine .inr ((intoB_yours (show ¬ gi o w = 1 - who by omega)).2 fun i hi => (hYg _ (nxt w hwl i hi)).2 ?_)
        by_cases hc : 0 ≤ gi (levelsL o n (1 - who) (otherL o.length goal)) (gi (gl n w) i).toNat
        · exact .inl hc
        · refine .inr fun ha => hwn (attr_pull hwl hwc ?_)
          unfold pulledB
          rw [if_pos own]
          exact pSome_iff.2 ⟨i, hi, (mkM_iff (nxt w hwl i hi)).2 ((mc (nxt w hwl i hi)).2 hc), (attr_rank ha).2⟩
      · have own' : gi o w = 1 - who := by have := (hf.2.2.2 w hwl).1; omega
        unfold keptL
        rw [hsafe, Bool.true_and, Bool.or_eq_true]
        refine .inr ((intoB_mine own').2 (Classical.byContradiction fun hno => hwn (attr_pull hwl hwc ?_)))
        have hall : ∀ i, i < (gl n w).length → ¬ 0 ≤ gi (levelsL o n (1 - who) (otherL o.length goal)) (gi (gl n w) i).toNat ∧ ((gi (gl n w) i).toNat : Int) ∈ attrL o n who (otherL o.length (wonUp (levelsL o n (1 - who) (otherL o.length goal)) o.length)) goal := fun i hi => by
          have h1 : ¬ (0 ≤ gi (levelsL o n (1 - who) (otherL o.length goal)) (gi (gl n w) i).toNat ∨ ¬ ((gi (gl n w) i).toNat : Int) ∈ attrL o n who (otherL o.length (wonUp (levelsL o n (1 - who) (otherL o.length goal)) o.length)) goal) := fun h => hno ⟨i, hi, (hYg _ (nxt w hwl i hi)).2 h⟩
          exact ⟨fun h => h1 (.inl h), Classical.byContradiction fun h => h1 (.inr h)⟩
        unfold pulledB
        rw [if_neg own, Bool.and_eq_true]
        exact ⟨pIn_iff.2 ⟨0, by omega, (mkM_iff (nxt w hwl 0 (by omega))).2 ((mc (nxt w hwl 0 (by omega))).2 (hall 0 (by omega)).1)⟩, pAll_iff.2 fun i hi _ => (attr_rank (hall i hi).2).2⟩

end
end Go.Proofs.Ytblmcmccdeelgaa
namespace Go.Proofs.Ytblmcmccdeelgaa
open Go.RowKit

/-- from w0 on: the result's box (block at w0's end) is still zero, the box behind it holds the game g -/
def GSt (w0 wr : World) (s0 s1 s2 : Value) (g : ParD) : Prop :=
  Below w0.heap.size w0 wr ∧ w0.heap.size + 2 ≤ wr.heap.size ∧ Box wr w0.heap.size 34 #[.slice none 0 0, .slice none 0 0, .slice none 0 0] ∧ Box wr (w0.heap.size + 1) 34 #[s0, s1, s2] ∧ OPar wr (w0.heap.size + 2) s0 s1 s2 g
section
variable {w0 wr w : World} {s0 s1 s2 t0 t1 t2 : Value} {g g' : ParD}
theorem GSt.below (h : GSt w0 wr s0 s1 s2 g) : Below w0.heap.size w0 wr := h.1
theorem GSt.size (h : GSt w0 wr s0 s1 s2 g) : w0.heap.size + 2 ≤ wr.heap.size := h.2.1
theorem GSt.zero (h : GSt w0 wr s0 s1 s2 g) : Box wr w0.heap.size 34 #[.slice none 0 0, .slice none 0 0, .slice none 0 0] := h.2.2.1
theorem GSt.box (h : GSt w0 wr s0 s1 s2 g) : Box wr (w0.heap.size + 1) 34 #[s0, s1, s2] := h.2.2.2.1
theorem GSt.own (h : GSt w0 wr s0 s1 s2 g) : OPar wr (w0.heap.size + 2) s0 s1 s2 g := h.2.2.2.2
theorem GSt.move (h : GSt w0 wr s0 s1 s2 g) (hb : Below wr.heap.size wr w) : GSt w0 w s0 s1 s2 g :=
  ⟨below_then hb (by have := h.size; omega) h.1, by have := h.size; have := hb.size; omega, h.zero.below hb h.zero.lt, h.box.below hb h.box.lt, h.own.below hb⟩
theorem GSt.start (w : World) : GSt w ((w.alloc (.cells #[.slice none 0 0, .slice none 0 0, .slice none 0 0] 34)).alloc (.cells #[.slice none 0 0, .slice none 0 0, .slice none 0 0] 34)) (.slice none 0 0) (.slice none 0 0) (.slice none 0 0) ([], [], []) :=
  ⟨below_alloc (Nat.le_refl _) (below_alloc (Nat.le_refl _) (Below.refl _ _)), by simp, (Box.new _ _ _).alloc _, Box.new' (by simp), OPar.nil _ _⟩
theorem GSt.c0 (h : GSt w0 wr s0 s1 s2 g) : wr.cell? ⟨w0.heap.size + 1, 0, none⟩ = some s0 := h.box.cell 0
theorem GSt.c1 (h : GSt w0 wr s0 s1 s2 g) : wr.cell? ⟨w0.heap.size + 1, 1, none⟩ = some s1 := h.box.cell 1
theorem GSt.c2 (h : GSt w0 wr s0 s1 s2 g) : wr.cell? ⟨w0.heap.size + 1, 2, none⟩ = some s2 := h.box.cell 2
theorem GSt.z0 (h : GSt w0 wr s0 s1 s2 g) : wr.cell? ⟨w0.heap.size, 0, none⟩ = some (.slice none 0 0) := h.zero.cell 0
theorem GSt.z1 (h : GSt w0 wr s0 s1 s2 g) : wr.cell? ⟨w0.heap.size, 1, none⟩ = some (.slice none 0 0) := h.zero.cell 1
theorem GSt.z2 (h : GSt w0 wr s0 s1 s2 g) : wr.cell? ⟨w0.heap.size, 2, none⟩ = some (.slice none 0 0) := h.zero.cell 2
theorem GSt.blk (h : GSt w0 wr s0 s1 s2 g) : w0.heap.size < wr.heap.size := by have := h.size; omega
/-- behind a call that gave a new game in new memory -/
theorem GSt.call (h : GSt w0 wr s0 s1 s2 g) (hb : Below (w0.heap.size + 2) wr w) : Box w w0.heap.size 34 #[.slice none 0 0, .slice none 0 0, .slice none 0 0] ∧ Box w (w0.heap.size + 1) 34 #[s0, s1, s2] ∧ Below w0.heap.size w0 w ∧ w0.heap.size + 2 ≤ w.heap.size :=
  ⟨h.zero.below hb (by omega), h.box.below hb (by omega), h.1.trans (hb.mono (by omega)), by have := h.size; have := hb.size; omega⟩
/-- the new game has been stored -/
theorem GSt.store (h : GSt w0 wr s0 s1 s2 g) (hb : Below (w0.heap.size + 2) wr w) (ho : OPar w (w0.heap.size + 2) t0 t1 t2 g') :
    GSt w0 (((w.setCell ⟨w0.heap.size + 1, 0, none⟩ t0).setCell ⟨w0.heap.size + 1, 1, none⟩ t1).setCell ⟨w0.heap.size + 1, 2, none⟩ t2) t0 t1 t2 g' := by
  obtain ⟨k1, k2, k3, k4⟩ := h.call hb
  have ch := Chg.set3 w (w0.heap.size + 1) t0 t1 t2
  refine ⟨k3.trans (ch.below (by omega) (fun x hx => by omega)), by have := ch.size; omega, k1.far3 (by omega) _ _ _, k2.set3 _ _ _, ho.chg ch (fun x hx => by omega)⟩
/-- the game has been laid into the result's box -/
theorem GSt.fin (h : GSt w0 wr s0 s1 s2 g) : OPar (((wr.setCell ⟨w0.heap.size, 0, none⟩ s0).setCell ⟨w0.heap.size, 1, none⟩ s1).setCell ⟨w0.heap.size, 2, none⟩ s2) (w0.heap.size + 2) s0 s1 s2 g ∧
    Below w0.heap.size w0 (((wr.setCell ⟨w0.heap.size, 0, none⟩ s0).setCell ⟨w0.heap.size, 1, none⟩ s1).setCell ⟨w0.heap.size, 2, none⟩ s2) ∧
    Box (((wr.setCell ⟨w0.heap.size, 0, none⟩ s0).setCell ⟨w0.heap.size, 1, none⟩ s1).setCell ⟨w0.heap.size, 2, none⟩ s2) w0.heap.size 34 #[s0, s1, s2] := by
  have ch := Chg.set3 wr w0.heap.size s0 s1 s2
  have := h.blk
  exact ⟨h.own.chg ch (fun x hx => by omega), h.1.trans (ch.below (by omega) (fun x hx => by omega)), h.zero.set3 _ _ _⟩
end
theorem Box.c0 {w : World} {b : Nat} {t : TypeId} {x0 x1 x2 : Value} (h : Box w b t #[x0, x1, x2]) : w.cell? ⟨b, 0, none⟩ = some x0 := h.cell 0
theorem Box.c1 {w : World} {b : Nat} {t : TypeId} {x0 x1 x2 : Value} (h : Box w b t #[x0, x1, x2]) : w.cell? ⟨b, 1, none⟩ = some x1 := h.cell 1
theorem Box.c2 {w : World} {b : Nat} {t : TypeId} {x0 x1 x2 : Value} (h : Box w b t #[x0, x1, x2]) : w.cell? ⟨b, 2, none⟩ = some x2 := h.cell 2
end Go.Proofs.Ytblmcmccdeelgaa
namespace Go.Proofs.Ytblmcmccdeelgaa
open Go.RowKit

/-- from w0 on: the result's box br is still zero, the box bg holds the game g, whose rows lie from B on -/
def GSx (B : Nat) (w0 wr : World) (br bg : Nat) (s0 s1 s2 : Value) (g : ParD) : Prop :=
  Below w0.heap.size w0 wr ∧ B ≤ wr.heap.size ∧ (w0.heap.size ≤ br ∧ br < bg ∧ bg < B) ∧ Box wr br 34 #[.slice none 0 0, .slice none 0 0, .slice none 0 0] ∧ Box wr bg 34 #[s0, s1, s2] ∧ OPar wr B s0 s1 s2 g
section
variable {B : Nat} {w0 wr w : World} {br bg : Nat} {s0 s1 s2 t0 t1 t2 : Value} {g g' : ParD}
theorem GSx.below (h : GSx B w0 wr br bg s0 s1 s2 g) : Below w0.heap.size w0 wr := h.1
theorem GSx.size (h : GSx B w0 wr br bg s0 s1 s2 g) : B ≤ wr.heap.size := h.2.1
theorem GSx.ord (h : GSx B w0 wr br bg s0 s1 s2 g) : w0.heap.size ≤ br ∧ br < bg ∧ bg < B := h.2.2.1
theorem GSx.zero (h : GSx B w0 wr br bg s0 s1 s2 g) : Box wr br 34 #[.slice none 0 0, .slice none 0 0, .slice none 0 0] := h.2.2.2.1
theorem GSx.box (h : GSx B w0 wr br bg s0 s1 s2 g) : Box wr bg 34 #[s0, s1, s2] := h.2.2.2.2.1
theorem GSx.own (h : GSx B w0 wr br bg s0 s1 s2 g) : OPar wr B s0 s1 s2 g := h.2.2.2.2.2
theorem GSx.move (h : GSx B w0 wr br bg s0 s1 s2 g) (hb : Below wr.heap.size wr w) : GSx B w0 w br bg s0 s1 s2 g :=
  ⟨below_then hb h.1.size h.1, Nat.le_trans h.size hb.size, h.ord, h.zero.on hb, h.box.on hb, h.own.below hb⟩
theorem GSx.c0 (h : GSx B w0 wr br bg s0 s1 s2 g) : wr.cell? ⟨bg, 0, none⟩ = some s0 := h.box.cell 0
theorem GSx.c1 (h : GSx B w0 wr br bg s0 s1 s2 g) : wr.cell? ⟨bg, 1, none⟩ = some s1 := h.box.cell 1
theorem GSx.c2 (h : GSx B w0 wr br bg s0 s1 s2 g) : wr.cell? ⟨bg, 2, none⟩ = some s2 := h.box.cell 2
theorem GSx.z0 (h : GSx B w0 wr br bg s0 s1 s2 g) : wr.cell? ⟨br, 0, none⟩ = some (.slice none 0 0) := h.zero.cell 0
theorem GSx.z1 (h : GSx B w0 wr br bg s0 s1 s2 g) : wr.cell? ⟨br, 1, none⟩ = some (.slice none 0 0) := h.zero.cell 1
theorem GSx.z2 (h : GSx B w0 wr br bg s0 s1 s2 g) : wr.cell? ⟨br, 2, none⟩ = some (.slice none 0 0) := h.zero.cell 2
theorem GSx.call (h : GSx B w0 wr br bg s0 s1 s2 g) (hb : Below B wr w) : Box w br 34 #[.slice none 0 0, .slice none 0 0, .slice none 0 0] ∧ Box w bg 34 #[s0, s1, s2] ∧ Below w0.heap.size w0 w ∧ B ≤ w.heap.size :=
  ⟨h.zero.below hb (by have := h.ord; omega), h.box.below hb (by have := h.ord; omega), h.1.trans (hb.mono (by have := h.ord; omega)), Nat.le_trans h.size hb.size⟩
theorem GSx.store (h : GSx B w0 wr br bg s0 s1 s2 g) (hb : Below B wr w) (ho : OPar w B t0 t1 t2 g') :
    GSx B w0 (((w.setCell ⟨bg, 0, none⟩ t0).setCell ⟨bg, 1, none⟩ t1).setCell ⟨bg, 2, none⟩ t2) br bg t0 t1 t2 g' := by
  obtain ⟨k1, k2, k3, k4⟩ := h.call hb
  have ch := Chg.set3 w bg t0 t1 t2
  have := h.ord
  refine ⟨k3.trans (ch.below (by have := k3.size; omega) (fun x hx => by omega)), by have := ch.size; omega, h.ord, k1.far3 (by omega) _ _ _, k2.set3 _ _ _, ho.chg ch (fun x hx => by omega)⟩
theorem GSx.fin (h : GSx B w0 wr br bg s0 s1 s2 g) : OPar (((wr.setCell ⟨br, 0, none⟩ s0).setCell ⟨br, 1, none⟩ s1).setCell ⟨br, 2, none⟩ s2) B s0 s1 s2 g ∧
    Below w0.heap.size w0 (((wr.setCell ⟨br, 0, none⟩ s0).setCell ⟨br, 1, none⟩ s1).setCell ⟨br, 2, none⟩ s2) ∧
    Box (((wr.setCell ⟨br, 0, none⟩ s0).setCell ⟨br, 1, none⟩ s1).setCell ⟨br, 2, none⟩ s2) br 34 #[s0, s1, s2] := by
  have ch := Chg.set3 wr br s0 s1 s2
  have := h.ord
  exact ⟨h.own.chg ch (fun x hx => by omega), h.1.trans (ch.below h.1.size (fun x hx => by omega)), h.zero.set3 _ _ _⟩
theorem GSx.start {w0 w : World} {br : Nat} (hw : Below w0.heap.size w0 w) (hb : w0.heap.size ≤ br) (hz : Box w br 34 #[.slice none 0 0, .slice none 0 0, .slice none 0 0]) : GSx (w.heap.size + 1) w0 (w.alloc (.cells #[.slice none 0 0, .slice none 0 0, .slice none 0 0] 34)) br w.heap.size (.slice none 0 0) (.slice none 0 0) (.slice none 0 0) ([], [], []) :=
  ⟨below_alloc (Nat.le_refl _) hw, by simp, ⟨hb, hz.lt, Nat.lt_succ_self _⟩, hz.alloc _, Box.new _ _ _, OPar.nil _ _⟩
theorem below_cell {w w' : World} {b o : Nat} {v : Value} (h : Below w.heap.size w w') (hc : w.cell? ⟨b, o, none⟩ = some v) : w'.cell? ⟨b, o, none⟩ = some v := keeps_below h _ _ hc
theorem cell_lt {w : World} {b o : Nat} {v : Value} (hc : w.cell? ⟨b, o, none⟩ = some v) : b < w.heap.size := by simpa using World.block_lt_of_cell? w _ hc
end
end Go.Proofs.Ytblmcmccdeelgaa
