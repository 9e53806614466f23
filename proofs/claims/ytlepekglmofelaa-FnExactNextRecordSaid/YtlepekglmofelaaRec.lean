/- RecordPrio, NextRecord: spec and impl. -/
import Derived.Test.YtlepekglmofelaaBroken2
import Derived.Test.YtlepekglmofelaaFn3
import Derived.Laws.AppendOwnNone
namespace Go.Proofs.Ytlepekglmofelaa
open Go.RowKit

noncomputable def canR (ps : List PairD) (rec : List Int) (v : Int) : Bool := pairsB ps 256 && recOk rec ps.length && inR v 0 255
def askAt (ps : List PairD) (rec : List Int) (v : Int) (i : Nat) : Bool := hasL (gp ps (gi rec i).toNat).1 v
def giveAt (ps : List PairD) (rec : List Int) (v : Int) (i : Nat) : Bool := hasL (gp ps (gi rec i).toNat).2 v
/-- the last index below k at which p holds, -1 for none -/
def lastI (p : Nat → Bool) : Nat → Int
  | 0 => -1
  | k + 1 => if p k = true then (k : Int) else lastI p k
theorem lastI_yes {p : Nat → Bool} {k : Nat} (h : p k = true) : lastI p (k + 1) = (k : Int) := if_pos h
theorem lastI_no {p : Nat → Bool} {k : Nat} (h : p k = false) : lastI p (k + 1) = lastI p k := if_neg (by rw [h]; simp)
theorem lastI_bd (p : Nat → Bool) (k : Nat) : -1 ≤ lastI p k ∧ lastI p k < k := by
  induction k with
  | zero => simp [lastI]
  | succ k ih => unfold lastI; split <;> omega
def prioV (a g : Int) : Int := if a < 0 ∧ g < 0 then 0 else if g < a then 2 * a + 1 else 2 * g + 2
theorem prioV_0 {a g : Int} (h : a < 0) (h' : g < 0) : prioV a g = 0 := if_pos ⟨h, h'⟩
theorem prioV_a {a g : Int} (h : 0 ≤ a) (h' : g < a) : prioV a g = 2 * a + 1 := by unfold prioV; rw [if_neg (by omega), if_pos h']
theorem prioV_g {a g : Int} (h : 0 ≤ g) (h' : ¬ g < a) : prioV a g = 2 * g + 2 := by unfold prioV; rw [if_neg (by omega), if_neg h']
def recPrioL (ps : List PairD) (rec : List Int) (v : Int) : Int := prioV (lastI (askAt ps rec v) rec.length) (lastI (giveAt ps rec v) rec.length)
noncomputable def recPrioR (ps : List PairD) (rec : List Int) (v : Int) : Int := if canR ps rec v = true then recPrioL ps rec v else -1
def frontUp (ps : List PairD) (rec : List Int) (v : Int) (k : Nat) : List Int := pick (giveAt ps rec v) (gi rec) k
def restUp (ps : List PairD) (rec : List Int) (v : Int) (k : Nat) : List Int := pick (fun i => !giveAt ps rec v i) (gi rec) k
def nextL (ps : List PairD) (rec : List Int) (v : Int) : List Int := frontUp ps rec v rec.length ++ restUp ps rec v rec.length
noncomputable def nextR (ps : List PairD) (rec : List Int) (v : Int) : List Int := if canR ps rec v = true then nextL ps rec v else []
theorem front_len (ps : List PairD) (rec : List Int) (v : Int) (k : Nat) : (frontUp ps rec v k).length ≤ k := pick_len _ _ _
theorem rest_len (ps : List PairD) (rec : List Int) (v : Int) (k : Nat) : (restUp ps rec v k).length ≤ k := pick_len _ _ _
theorem front_yes {ps : List PairD} {rec : List Int} {v : Int} {k m : Nat} (hm : gi rec k = (m : Int)) (h : hasL (gp ps m).2 v = true) : frontUp ps rec v (k + 1) = frontUp ps rec v k ++ [(m : Int)] ∧ restUp ps rec v (k + 1) = restUp ps rec v k := by
  have : giveAt ps rec v k = true := by unfold giveAt; rw [hm]; simpa using h
  exact ⟨by unfold frontUp; rw [pick_yes this, hm], pick_no (by rw [this]; rfl)⟩
theorem front_no {ps : List PairD} {rec : List Int} {v : Int} {k m : Nat} (hm : gi rec k = (m : Int)) (h : hasL (gp ps m).2 v = false) : frontUp ps rec v (k + 1) = frontUp ps rec v k ∧ restUp ps rec v (k + 1) = restUp ps rec v k ++ [(m : Int)] := by
  have : giveAt ps rec v k = false := by unfold giveAt; rw [hm]; simpa using h
  exact ⟨pick_no this, by unfold restUp; rw [pick_yes (by rw [this]; rfl), hm]⟩
theorem ask_m {ps : List PairD} {rec : List Int} {v : Int} {k m : Nat} (hm : gi rec k = (m : Int)) : askAt ps rec v k = hasL (gp ps m).1 v := by unfold askAt; rw [hm]; rfl
theorem give_m {ps : List PairD} {rec : List Int} {v : Int} {k m : Nat} (hm : gi rec k = (m : Int)) : giveAt ps rec v k = hasL (gp ps m).2 v := by unfold giveAt; rw [hm]; rfl
/-- a record's entries are indices of pairs -/
theorem rec_at {ps : List PairD} {rec : List Int} {n m k : Nat} (hn : ps.length = n) (hm : rec.length = m) (h : recOk rec ps.length = true) (hk : k < m) : ∃ j : Nat, gi rec k = (j : Int) ∧ j < n := by
  obtain ⟨_, _, _, h4, _⟩ := of_decide_eq_true h
  have := h4 _ (gi_mem (show k < rec.length by omega))
  exact ⟨(gi rec k).toNat, by omega, by omega⟩
theorem rec_len {rec : List Int} {k : Int} (h : recOk rec k = true) : rec.length ≤ 4 := by
  obtain ⟨_, h2, h3, _, _⟩ := of_decide_eq_true h
  omega
theorem nextR_len (ps : List PairD) (rec : List Int) (v : Int) : (nextR ps rec v).length ≤ 8 := by
  unfold nextR
  split
  · rename_i h
    unfold canR at h
    simp only [Bool.and_eq_true] at h
    have := rec_len h.1.2
    have := front_len ps rec v rec.length
    have := rest_len ps rec v rec.length
    unfold nextL
    rw [List.length_append]
    omega
  · simp

set_option maxRecDepth 100000 in
theorem wpList_appI {ops : Array Oper} {rest : List Oper} {o : Oper} {a : Act} {Q : Exit → Act → World → Prop} (hgd : o.guard = none) (s x : Operand)
    (ho : o.op = .call { callee := .builtin .append, args := #[s, x], argTypes := #[22, 22] })
    (w : World) (lo : Nat) (v : Value) (xs : List Int) (hs : a.eval s = v) (hown : OI 2 w lo v xs) (X : Option Addr) (m c : Nat) (ys : List Int) (hx : a.eval x = .slice X m c) (hX : X = none → c = 0) (hr : RI w X m c ys)
    (hn : xs.length ≤ 4194304) (hm : m ≤ 4194304) (hlo : lo ≤ w.heap.size)
    (h : ∀ v' w', OI 2 w' lo v' (xs ++ ys) → Below lo w w' → Chg (fun z => v.ownBlock = some z) w w' → (∀ b, v'.ownBlock = some b → v.ownBlock = some b ∨ w.heap.size ≤ b) →
      wpList Try.prog ops Q rest (a.put o.dst v') w') : wpList Try.prog ops Q (o :: rest) a w := by
  obtain ⟨i0, hi0, hz0, hz1, hz2⟩ := info_parts infoI'
  cases X with
  | none =>
    have h0 : m = 0 := by
      rcases Nat.eq_zero_or_pos m with h1 | h1
      · exact h1
      · obtain ⟨b, off, e, _⟩ := hr.at_ h1
        cases e
    subst h0
    have hc0 := hX rfl
    subst hc0
    have hy : ys = [] := List.eq_nil_of_length_eq_zero hr.len
    subst hy
    refine wpList_append_own_none hgd s x 22 ho lo 2 i0 1 Try.underlying22 hi0 v xs.length (xs.map (Value.int .i64)) hs hown hx ?_
    exact h v w (by rw [List.append_nil]; exact hown) (Below.refl _ _) (Chg.refl _ _) (fun b hb => .inl hb)
  | some ad =>
    have hnews : ∀ j u, (ys.map (Value.int .i64))[j]? = some u → w.cell? (ad.add j) = some u := by
      intro j u hj
      rw [List.getElem?_map] at hj
      have hjl : j < ys.length := by
        rcases Nat.lt_or_ge j ys.length with h1 | h1
        · exact h1
        · rw [List.getElem?_eq_none h1] at hj; cases hj
      obtain ⟨b, off, e, hc⟩ := hr.at_ (i := j) (by rw [← hr.len]; exact hjl)
      injection e with e
      subst e
      rw [add_at, hc]
      rw [gi_some hjl] at hj
      simpa using hj
    refine wpList_plain hgd fun _ hK => ?_
    obtain ⟨v', w', hrun, h2, h3, _, h5⟩ := run_append_own_at (P := Try.prog) w lo 22 o.type 2 i0 (.int .i64 0) 1 8 Try.underlying22 hi0 hz0 hz1 hz2 rfl (by decide) v xs.length (xs.map (Value.int .i64)) hown ad m c (ys.map (Value.int .i64)) (by rw [List.length_map, hr.len]; omega) hnews (fun u hu => by
      obtain ⟨y, _, rfl⟩ := List.mem_map.1 hu
      rfl) (by unfold maxLen; omega) (by omega) hlo
    unfold Oper.wp execOp
    simp only [ho, resolve, invoke, builtin, Sem.run_bind, Sem.run_pure, Result.andThen_ok, List.map_toArray, List.map_cons, List.map_nil, hs, hx, hrun]
    refine hK _ _ (h v' w' ?_ ((Chg.of_grown h3).below hlo (fun z hz => (hown.lt z hz).1)) (Chg.of_grown h3) ?_)
    · unfold OI
      rw [List.length_append, List.map_append, hr.len]
      exact h2
    · intro b hb
      rcases h5 with h5 | h5
      · exact .inl (h5 ▸ hb)
      · right
        rw [h5] at hb
        injection hb with hb
        omega
theorem OI.nilcap {E : TypeId} {w : World} {lo n c : Nat} {A : Option Addr} {xs : List Int} (h : OI E w lo (.slice A n c) xs) : A = none → c = 0 := by
  intro e
  rcases h.2 with ⟨h1, _⟩ | ⟨g, cap, cur, h1, _⟩
  · injection h1
  · injection h1 with h1 _ _
    rw [e] at h1
    cases h1

set_option maxRecDepth 100000 in
set_option maxHeartbeats 400000 in
theorem l17Right (A C : Option Addr) (n c m d : Nat) (ps : List PairD) (rec : List Int) (v : Int) (w : World) (B : Nat) (hB : B ≤ w.heap.size) (ha : RPS w A n c ps) (hb : RI w C m d rec) :
    Calls Try.prog 94 #[.slice A n c, .slice C m d, .int .i64 v] w fun e w' => e = .returned (.bool (canR ps rec v)) ∧ Below B w w' := by
  have b1 := ha.cap; have b2 := ha.top
  have HL := Lib.hid ha.len
  cases h1 : pairsB ps 256 with
  | false =>
    have E := Lib.hid (show canR ps rec v = false by unfold canR; rw [h1]; rfl)
    go_enter Try.func94, Try.ntmps94
    go_wp2_with fail
    refine (specPairsOk _ _ _ _ _ _ ha).mono ?_; rintro e w1 ⟨rfl, hq1⟩
    rw [in256a]
    have hb1 := below_qt hq1 (Below.refl w.heap.size w)
    go_wp2
    go_ret
    exact ⟨ret_b E.out.symm, hb1.mono hB⟩
  | true =>
    have HN := Lib.hid (show recOk rec (n : Int) = recOk rec ps.length by rw [HL.out])
    cases h2 : recOk rec ps.length with
    | false =>
      have E := Lib.hid (show canR ps rec v = false by unfold canR; rw [h1, h2]; rfl)
      go_enter Try.func94, Try.ntmps94
      go_wp2_with fail
      refine (specPairsOk _ _ _ _ _ _ ha).mono ?_; rintro e w1 ⟨rfl, hq1⟩
      rw [in256a]
      have hb1 := below_qt hq1 (Below.refl w.heap.size w)
      go_wp2_with fail
      refine (specRecordOk _ _ _ _ _ _ (hb.keep (keeps_below hb1))).mono ?_; rintro e w2 ⟨rfl, hq2⟩
      rw [HN.out]
      have hb2 := below_qt hq2 hb1
      go_wp2
      go_ret
      exact ⟨ret_b E.out.symm, hb2.mono hB⟩
    | true =>
      have E := Lib.hid (show canR ps rec v = inR v 0 255 by unfold canR; rw [h1, h2]; rfl)
      go_enter Try.func94, Try.ntmps94
      go_wp2_with fail
      refine (specPairsOk _ _ _ _ _ _ ha).mono ?_; rintro e w1 ⟨rfl, hq1⟩
      rw [in256a]
      have hb1 := below_qt hq1 (Below.refl w.heap.size w)
      go_wp2_with fail
      refine (specRecordOk _ _ _ _ _ _ (hb.keep (keeps_below hb1))).mono ?_; rintro e w2 ⟨rfl, hq2⟩
      rw [HN.out]
      have hb2 := below_qt hq2 hb1
      go_wp2_with fail
      refine (l1In _ _ _ _).mono ?_; rintro e w3 ⟨rfl, hq3⟩
      have hb3 := below_qt hq3 hb2
      go_wp2
      go_ret
      exact ⟨ret_b E.out.symm, hb3.mono hB⟩

set_option maxRecDepth 100000 in
set_option maxHeartbeats 400000 in
theorem canRecord (A C : Option Addr) (n c m d : Nat) (ps : List PairD) (rec : List Int) (v : Int) (w : World) (B : Nat) (hB : B ≤ w.heap.size) (ha : RPS w A n c ps) (hb : RI w C m d rec) :
    Calls Try.prog 96 #[.slice A n c, .slice C m d, .int .i64 v] w fun e w' => e = .returned (.bool (canR ps rec v)) ∧ Below B w w' := by
  have b1 := ha.cap; have b2 := ha.top
  have HL := Lib.hid ha.len
  cases h1 : pairsB ps 256 with
  | false =>
    have E := Lib.hid (show canR ps rec v = false by unfold canR; rw [h1]; rfl)
    go_enter Try.func96, Try.ntmps96
    go_wp2_with fail
    refine (arePairs _ _ _ _ _ _ _ (Nat.le_refl _) ha).mono ?_; rintro e w1 ⟨rfl, hb1⟩
    go_wp2
    go_ret
    exact ⟨ret_b E.out.symm, hb1.mono hB⟩
  | true =>
    have HN := Lib.hid (show recOk rec (n : Int) = recOk rec ps.length by rw [HL.out])
    cases h2 : recOk rec ps.length with
    | false =>
      have E := Lib.hid (show canR ps rec v = false by unfold canR; rw [h1, h2]; rfl)
      go_enter Try.func96, Try.ntmps96
      go_wp2_with fail
      refine (arePairs _ _ _ _ _ _ _ (Nat.le_refl _) ha).mono ?_; rintro e w1 ⟨rfl, hb1⟩
      go_wp2_with fail
      refine (isRecord _ _ _ _ _ _ _ (Nat.le_refl _) (hb.keep (keeps_below hb1))).mono ?_; rintro e w2 ⟨rfl, hb2'⟩
      rw [HN.out]
      have hb2 := below_then hb2' hb1.size hb1
      go_wp2
      go_ret
      exact ⟨ret_b E.out.symm, hb2.mono hB⟩
    | true =>
      by_cases h3 : 0 ≤ v
      · by_cases h4 : v < 256
        · have E := Lib.hid (show canR ps rec v = true by unfold canR; rw [h1, h2, show inR v 0 255 = true from decide_eq_true (by omega)]; rfl)
          have d1 : decide (0 ≤ v) = true := by simpa using h3
          have d2 : decide (v < 256) = true := by simpa using h4
          go_enter Try.func96, Try.ntmps96
          go_wp2_with fail
          refine (arePairs _ _ _ _ _ _ _ (Nat.le_refl _) ha).mono ?_; rintro e w1 ⟨rfl, hb1⟩
          go_wp2_with fail
          refine (isRecord _ _ _ _ _ _ _ (Nat.le_refl _) (hb.keep (keeps_below hb1))).mono ?_; rintro e w2 ⟨rfl, hb2'⟩
          rw [HN.out]
          have hb2 := below_then hb2' hb1.size hb1
          go_wp2
          go_ret
          exact ⟨ret_b E.out.symm, hb2.mono hB⟩
        · have E := Lib.hid (show canR ps rec v = false by unfold canR; rw [h1, h2, show inR v 0 255 = false from decide_eq_false (by omega)]; rfl)
          have d1 : decide (0 ≤ v) = true := by simpa using h3
          have d2 : decide (v < 256) = false := by simpa using h4
          go_enter Try.func96, Try.ntmps96
          go_wp2_with fail
          refine (arePairs _ _ _ _ _ _ _ (Nat.le_refl _) ha).mono ?_; rintro e w1 ⟨rfl, hb1⟩
          go_wp2_with fail
          refine (isRecord _ _ _ _ _ _ _ (Nat.le_refl _) (hb.keep (keeps_below hb1))).mono ?_; rintro e w2 ⟨rfl, hb2'⟩
          rw [HN.out]
          have hb2 := below_then hb2' hb1.size hb1
          go_wp2
          go_ret
          exact ⟨ret_b E.out.symm, hb2.mono hB⟩
      · have E := Lib.hid (show canR ps rec v = false by unfold canR; rw [h1, h2, show inR v 0 255 = false from decide_eq_false (by omega)]; rfl)
        have d1 : decide (0 ≤ v) = false := by simpa using h3
        go_enter Try.func96, Try.ntmps96
        go_wp2_with fail
        refine (arePairs _ _ _ _ _ _ _ (Nat.le_refl _) ha).mono ?_; rintro e w1 ⟨rfl, hb1⟩
        go_wp2_with fail
        refine (isRecord _ _ _ _ _ _ _ (Nat.le_refl _) (hb.keep (keeps_below hb1))).mono ?_; rintro e w2 ⟨rfl, hb2'⟩
        rw [HN.out]
        have hb2 := below_then hb2' hb1.size hb1
        go_wp2
        go_ret
        exact ⟨ret_b E.out.symm, hb2.mono hB⟩

set_option maxRecDepth 100000 in
set_option maxHeartbeats 800000 in
theorem l17Prio (A C : Option Addr) (n c m d : Nat) (ps : List PairD) (rec : List Int) (v : Int) (w : World) (ha : RPS w A n c ps) (hb : RI w C m d rec) (hp : ps.length ≤ 4) (hr : recOk rec ps.length = true) :
    Calls Try.prog 95 #[.slice A n c, .slice C m d, .int .i64 v] w fun e w' => e = .returned (.int .i64 (recPrioL ps rec v)) ∧ Qt w w' := by
  have b1 := ha.cap; have b2 := ha.top; have b3 := hb.cap; have b4 := hb.top
  have HL := Lib.hid ha.len; have HM := Lib.hid hb.len; have HR := Lib.hid hr
  have hm4 : m ≤ 4 := by have := rec_len hr; rw [HM.out] at this; exact this
  clear hr hp
  go_enter Try.func95, Try.ntmps95
  go_wp2
  go_loopw [7, 8, 9] (fun x y i wr => ∃ (k : Nat) (p q : Int), k ≤ m ∧ i = .int .i64 k ∧ x = .int .i64 p ∧ y = .int .i64 q ∧ p = lastI (askAt ps rec v) k ∧ q = lastI (giveAt ps rec v) k ∧ ∃ q, wr = w.drewN q) (fun _ _ i _ => m - (intOf i).toNat)
  case atStart => exact ⟨0, -1, -1, Nat.zero_le _, rfl, rfl, rfl, rfl, rfl, 0, rfl⟩
  case round =>
    obtain ⟨k, p, q, hk, rfl, rfl, rfl, hp, hq, t, rfl⟩ := hrel
    have bp := lastI_bd (askAt ps rec v) k; have bq := lastI_bd (giveAt ps rec v) k
    rw [← hp] at bp; rw [← hq] at bq
    obtain ⟨bp1, bp2⟩ := bp; obtain ⟨bq1, bq2⟩ := bq
    have HP := Lib.hid hp; have HQ := Lib.hid hq; clear hp hq
    by_cases hlt : k < m
    · obtain ⟨j, hj, hjn⟩ := rec_at HL.out HM.out HR.out hlt
      obtain ⟨bb, off, rfl, hc⟩ := hb.at_ hlt
      rw [hj] at hc
      obtain ⟨b2, off2, A1, n1, c1, A2, n2, c2, rfl, hc1, hc2, r1, r2⟩ := ha.at_ hjn
      have HA := Lib.hid (ask_m (ps := ps) (v := v) hj); have HG := Lib.hid (give_m (ps := ps) (v := v) hj)
      clear hj
      cases h1 : hasL (gp ps j).1 v with
      | false =>
        cases h2 : hasL (gp ps j).2 v with
        | false =>
          have X1 := Lib.hid (lastI_no (show askAt ps rec v k = false by rw [HA.out]; exact h1))
          have X2 := Lib.hid (lastI_no (show giveAt ps rec v k = false by rw [HG.out]; exact h2))
          go_wp2_with fail
          refine (l16Has _ _ _ (gp ps j).1 _ _ (r1.keep (Qt.keeps ⟨_, rfl⟩))).mono ?_; rintro e w' ⟨rfl, q1, rfl⟩
          go_wp2_with fail
          refine (l16Has _ _ _ (gp ps j).2 _ _ (r2.keep (Qt.keeps ⟨_, rfl⟩))).mono ?_; rintro e w' ⟨rfl, q2, rfl⟩
          go_wp2
          go_roundw
          case rel => exact ⟨k + 1, _, _, by omega, by go_num, rfl, rfl, by rw [X1.out, HP.out], by rw [X2.out, HQ.out], _, rfl⟩
          case measure => simp [intOf]; omega
        | true =>
          have X1 := Lib.hid (lastI_no (show askAt ps rec v k = false by rw [HA.out]; exact h1))
          have X2 := Lib.hid (lastI_yes (show giveAt ps rec v k = true by rw [HG.out]; exact h2))
          go_wp2_with fail
          refine (l16Has _ _ _ (gp ps j).1 _ _ (r1.keep (Qt.keeps ⟨_, rfl⟩))).mono ?_; rintro e w' ⟨rfl, q1, rfl⟩
          go_wp2_with fail
          refine (l16Has _ _ _ (gp ps j).2 _ _ (r2.keep (Qt.keeps ⟨_, rfl⟩))).mono ?_; rintro e w' ⟨rfl, q2, rfl⟩
          go_wp2
          go_roundw
          case rel => exact ⟨k + 1, _, _, by omega, by go_num, rfl, rfl, by rw [X1.out, HP.out], by rw [X2.out], _, rfl⟩
          case measure => simp [intOf]; omega
      | true =>
        cases h2 : hasL (gp ps j).2 v with
        | false =>
          have X1 := Lib.hid (lastI_yes (show askAt ps rec v k = true by rw [HA.out]; exact h1))
          have X2 := Lib.hid (lastI_no (show giveAt ps rec v k = false by rw [HG.out]; exact h2))
          go_wp2_with fail
          refine (l16Has _ _ _ (gp ps j).1 _ _ (r1.keep (Qt.keeps ⟨_, rfl⟩))).mono ?_; rintro e w' ⟨rfl, q1, rfl⟩
          go_wp2_with fail
          refine (l16Has _ _ _ (gp ps j).2 _ _ (r2.keep (Qt.keeps ⟨_, rfl⟩))).mono ?_; rintro e w' ⟨rfl, q2, rfl⟩
          go_wp2
          go_roundw
          case rel => exact ⟨k + 1, _, _, by omega, by go_num, rfl, rfl, by rw [X1.out], by rw [X2.out, HQ.out], _, rfl⟩
          case measure => simp [intOf]; omega
        | true =>
          have X1 := Lib.hid (lastI_yes (show askAt ps rec v k = true by rw [HA.out]; exact h1))
          have X2 := Lib.hid (lastI_yes (show giveAt ps rec v k = true by rw [HG.out]; exact h2))
          go_wp2_with fail
          refine (l16Has _ _ _ (gp ps j).1 _ _ (r1.keep (Qt.keeps ⟨_, rfl⟩))).mono ?_; rintro e w' ⟨rfl, q1, rfl⟩
          go_wp2_with fail
          refine (l16Has _ _ _ (gp ps j).2 _ _ (r2.keep (Qt.keeps ⟨_, rfl⟩))).mono ?_; rintro e w' ⟨rfl, q2, rfl⟩
          go_wp2
          go_roundw
          case rel => exact ⟨k + 1, _, _, by omega, by go_num, rfl, rfl, by rw [X1.out], by rw [X2.out], _, rfl⟩
          case measure => simp [intOf]; omega
    · obtain rfl : k = m := by omega
      have E0 : recPrioL ps rec v = prioV p q := by unfold recPrioL; rw [HM.out, ← HP.out, ← HQ.out]
      have hcs : (p < 0 ∧ q < 0) ∨ (0 ≤ p ∧ q < p) ∨ (0 ≤ q ∧ ¬ q < p) := by omega
      rcases hcs with ⟨h1, h2⟩ | ⟨h1, h2⟩ | ⟨h1, h2⟩
      · have E := Lib.hid (E0.trans (prioV_0 h1 h2)); clear E0
        go_wp2
        all_goals
          go_ret
          exact ⟨ret_i E.out.symm, _, rfl⟩
      · have E := Lib.hid (E0.trans (prioV_a h1 h2)); clear E0
        have d1 : decide (p < 0) = false := decide_eq_false (by omega)
        go_wp2
        all_goals
          go_ret
          exact ⟨ret_i E.out.symm, _, rfl⟩
      · have E := Lib.hid (E0.trans (prioV_g h1 h2)); clear E0
        have h3 : p ≤ q := by omega
        have d2 : decide (q < 0) = false := decide_eq_false (by omega)
        clear h2
        go_wp2
        all_goals
          go_ret
          exact ⟨ret_i E.out.symm, _, rfl⟩

set_option maxRecDepth 100000 in
set_option maxHeartbeats 800000 in
theorem recordPrio (A C : Option Addr) (n c m d : Nat) (ps : List PairD) (rec : List Int) (v : Int) (w : World) (ha : RPS w A n c ps) (hb : RI w C m d rec) (hp : ps.length ≤ 4) (hr : recOk rec ps.length = true) :
    Calls Try.prog 97 #[.slice A n c, .slice C m d, .int .i64 v] w fun e w' => e = .returned (.int .i64 (recPrioL ps rec v)) ∧ Qt w w' := by
  have b1 := ha.cap; have b2 := ha.top; have b3 := hb.cap; have b4 := hb.top
  have HL := Lib.hid ha.len; have HM := Lib.hid hb.len; have HR := Lib.hid hr
  have hm4 : m ≤ 4 := by have := rec_len hr; rw [HM.out] at this; exact this
  clear hr hp
  go_enter Try.func97, Try.ntmps97
  go_wp2
  go_loopw [7, 8, 13] (fun x y i wr => ∃ (k : Nat) (p q : Int), k ≤ m ∧ i = .int .i64 k ∧ x = .int .i64 p ∧ y = .int .i64 q ∧ p = lastI (askAt ps rec v) k ∧ q = lastI (giveAt ps rec v) k ∧ ∃ q, wr = w.drewN q) (fun _ _ i _ => m - (intOf i).toNat)
  case atStart => exact ⟨0, -1, -1, Nat.zero_le _, rfl, rfl, rfl, rfl, rfl, 0, rfl⟩
  case round =>
    obtain ⟨k, p, q, hk, rfl, rfl, rfl, hp, hq, t, rfl⟩ := hrel
    have bp := lastI_bd (askAt ps rec v) k; have bq := lastI_bd (giveAt ps rec v) k
    rw [← hp] at bp; rw [← hq] at bq
    obtain ⟨bp1, bp2⟩ := bp; obtain ⟨bq1, bq2⟩ := bq
    have HP := Lib.hid hp; have HQ := Lib.hid hq; clear hp hq
    by_cases hlt : k < m
    · obtain ⟨j, hj, hjn⟩ := rec_at HL.out HM.out HR.out hlt
      obtain ⟨bb, off, rfl, hc⟩ := hb.at_ hlt
      rw [hj] at hc
      obtain ⟨b2, off2, A1, n1, c1, A2, n2, c2, rfl, hc1, hc2, r1, r2⟩ := ha.at_ hjn
      have HA := Lib.hid (ask_m (ps := ps) (v := v) hj); have HG := Lib.hid (give_m (ps := ps) (v := v) hj)
      clear hj
      cases h1 : hasL (gp ps j).1 v with
      | false =>
        cases h2 : hasL (gp ps j).2 v with
        | false =>
          have X1 := Lib.hid (lastI_no (show askAt ps rec v k = false by rw [HA.out]; exact h1))
          have X2 := Lib.hid (lastI_no (show giveAt ps rec v k = false by rw [HG.out]; exact h2))
          go_wp2_with fail
          refine (slContains _ _ _ (gp ps j).1 _ _ (r1.keep (Qt.keeps ⟨_, rfl⟩))).mono ?_; rintro e w' ⟨rfl, q1, rfl⟩
          go_wp2_with fail
          refine (slContains _ _ _ (gp ps j).2 _ _ (r2.keep (Qt.keeps ⟨_, rfl⟩))).mono ?_; rintro e w' ⟨rfl, q2, rfl⟩
          go_wp2
          go_roundw
          case rel => exact ⟨k + 1, _, _, by omega, by go_num, rfl, rfl, by rw [X1.out, HP.out], by rw [X2.out, HQ.out], _, rfl⟩
          case measure => simp [intOf]; omega
        | true =>
          have X1 := Lib.hid (lastI_no (show askAt ps rec v k = false by rw [HA.out]; exact h1))
          have X2 := Lib.hid (lastI_yes (show giveAt ps rec v k = true by rw [HG.out]; exact h2))
          go_wp2_with fail
          refine (slContains _ _ _ (gp ps j).1 _ _ (r1.keep (Qt.keeps ⟨_, rfl⟩))).mono ?_; rintro e w' ⟨rfl, q1, rfl⟩
          go_wp2_with fail
          refine (slContains _ _ _ (gp ps j).2 _ _ (r2.keep (Qt.keeps ⟨_, rfl⟩))).mono ?_; rintro e w' ⟨rfl, q2, rfl⟩
          go_wp2
          go_roundw
          case rel => exact ⟨k + 1, _, _, by omega, by go_num, rfl, rfl, by rw [X1.out, HP.out], by rw [X2.out], _, rfl⟩
          case measure => simp [intOf]; omega
      | true =>
        cases h2 : hasL (gp ps j).2 v with
        | false =>
          have X1 := Lib.hid (lastI_yes (show askAt ps rec v k = true by rw [HA.out]; exact h1))
          have X2 := Lib.hid (lastI_no (show giveAt ps rec v k = false by rw [HG.out]; exact h2))
          go_wp2_with fail
          refine (slContains _ _ _ (gp ps j).1 _ _ (r1.keep (Qt.keeps ⟨_, rfl⟩))).mono ?_; rintro e w' ⟨rfl, q1, rfl⟩
          go_wp2_with fail
          refine (slContains _ _ _ (gp ps j).2 _ _ (r2.keep (Qt.keeps ⟨_, rfl⟩))).mono ?_; rintro e w' ⟨rfl, q2, rfl⟩
          go_wp2
          go_roundw
          case rel => exact ⟨k + 1, _, _, by omega, by go_num, rfl, rfl, by rw [X1.out], by rw [X2.out, HQ.out], _, rfl⟩
          case measure => simp [intOf]; omega
        | true =>
          have X1 := Lib.hid (lastI_yes (show askAt ps rec v k = true by rw [HA.out]; exact h1))
          have X2 := Lib.hid (lastI_yes (show giveAt ps rec v k = true by rw [HG.out]; exact h2))
          go_wp2_with fail
          refine (slContains _ _ _ (gp ps j).1 _ _ (r1.keep (Qt.keeps ⟨_, rfl⟩))).mono ?_; rintro e w' ⟨rfl, q1, rfl⟩
          go_wp2_with fail
          refine (slContains _ _ _ (gp ps j).2 _ _ (r2.keep (Qt.keeps ⟨_, rfl⟩))).mono ?_; rintro e w' ⟨rfl, q2, rfl⟩
          go_wp2
          go_roundw
          case rel => exact ⟨k + 1, _, _, by omega, by go_num, rfl, rfl, by rw [X1.out], by rw [X2.out], _, rfl⟩
          case measure => simp [intOf]; omega
    · obtain rfl : k = m := by omega
      have E0 : recPrioL ps rec v = prioV p q := by unfold recPrioL; rw [HM.out, ← HP.out, ← HQ.out]
      have hcs : (p < 0 ∧ q < 0) ∨ (0 ≤ p ∧ q < p) ∨ (0 ≤ q ∧ ¬ q < p) := by omega
      rcases hcs with ⟨h1, h2⟩ | ⟨h1, h2⟩ | ⟨h1, h2⟩
      · have E := Lib.hid (E0.trans (prioV_0 h1 h2)); clear E0
        go_wp2
        all_goals
          go_ret
          exact ⟨ret_i E.out.symm, _, rfl⟩
      · have E := Lib.hid (E0.trans (prioV_a h1 h2)); clear E0
        have d1 : decide (p < 0) = false := decide_eq_false (by omega)
        go_wp2
        all_goals
          go_ret
          exact ⟨ret_i E.out.symm, _, rfl⟩
      · have E := Lib.hid (E0.trans (prioV_g h1 h2)); clear E0
        have h3 : p ≤ q := by omega
        have d2 : decide (q < 0) = false := decide_eq_false (by omega)
        clear h2
        go_wp2
        all_goals
          go_ret
          exact ⟨ret_i E.out.symm, _, rfl⟩

theorem apart_grow {u v x : Value} {H : Nat} (h : Apart u x) (hat : ∀ b, v.ownBlock = some b → u.ownBlock = some b ∨ H ≤ b) (hx : ∀ b, x.ownBlock = some b → b < H) : Apart v x := by
  unfold Apart
  cases e : v.ownBlock with
  | none => exact .inl rfl
  | some b =>
    right
    intro e2
    rcases hat b e with h1 | h1
    · exact apart_not h h1 e2.symm
    · have := hx b e2.symm; omega

set_option maxRecDepth 100000 in
set_option maxHeartbeats 800000 in
theorem l17Next (A C : Option Addr) (n c m d : Nat) (ps : List PairD) (rec : List Int) (v : Int) (w : World) (B : Nat) (hB : B ≤ w.heap.size) (ha : RPS w A n c ps) (hb : RI w C m d rec) (hp : ps.length ≤ 4) (hr : recOk rec ps.length = true) :
    Calls Try.prog 98 #[.slice A n c, .slice C m d, .int .i64 v] w fun e w' => ∃ u, e = .returned u ∧ OI 2 w' B u (nextL ps rec v) ∧ Below B w w' := by
  have b1 := ha.cap; have b2 := ha.top; have b3 := hb.cap; have b4 := hb.top
  have HL := Lib.hid ha.len; have HM := Lib.hid hb.len; have HR := Lib.hid hr
  have hm4 : m ≤ 4 := by have := rec_len hr; rw [HM.out] at this; exact this
  clear hr hp
  go_enter Try.func98, Try.ntmps98
  go_wp2
  go_loopw [7, 8, 9] (fun x y i wr => ∃ k : Nat, k ≤ m ∧ i = .int .i64 k ∧ OI 2 wr w.heap.size x (frontUp ps rec v k) ∧ OI 2 wr w.heap.size y (restUp ps rec v k) ∧ Apart x y ∧ Below w.heap.size w wr) (fun _ _ i _ => m - (intOf i).toNat)
  case atStart => exact ⟨0, Nat.zero_le _, rfl, (OI.empty (Nat.le_refl _)).below (below_alloc (Nat.le_refl _) (Below.refl _ _)), by have := OI.empty (E := 2) (w := w.alloc (.cells #[] 2)) (B := w.heap.size) (by simp); rw [show restUp ps rec v 0 = [] from rfl]; simpa using this, .inr (by simp [Value.ownBlock]), by repeat (first | with_reducible assumption | with_reducible exact Below.refl _ _ | with_reducible refine below_drewN ?_ _ | with_reducible refine Below.drew ?_ | with_reducible refine below_alloc (Nat.le_refl _) ?_)⟩
  case round =>
    obtain ⟨k, hk, rfl, ho1, ho2, hap, hbr⟩ := hrel
    obtain ⟨Ax, cx, rfl⟩ := ho1.form; obtain ⟨Ay, cy, rfl⟩ := ho2.form
    have u1 := front_len ps rec v k; have u2 := rest_len ps rec v k
    have hsz := hbr.size
    by_cases hlt : k < m
    · obtain ⟨j, hj, hjn⟩ := rec_at HL.out HM.out HR.out hlt
      obtain ⟨bb, off, rfl, hc⟩ := (hb.keep (keeps_below hbr)).at_ hlt
      rw [hj] at hc
      obtain ⟨b2, off2, A1, n1, c1, A2, n2, c2, rfl, hc1, hc2, r1, r2⟩ := (ha.keep (keeps_below hbr)).at_ hjn
      cases h2 : hasL (gp ps j).2 v with
      | true =>
        have X := front_yes (ps := ps) hj h2
        have X1 := Lib.hid X.1; have X2 := Lib.hid X.2; clear X hj
        have hbo : bb < wr.heap.size := by simpa using World.block_lt_of_cell? wr _ hc
        go_wp2_with fail
        refine (l16Has _ _ _ (gp ps j).2 _ _ r2).mono ?_; rintro e w' ⟨rfl, q1, rfl⟩
        go_wp2_with (refine wpList_pushI rfl (.tmp 28) (.tmp 33) rfl _ _ (.slice Ax (frontUp ps rec v k).length cx) (frontUp ps rec v k) rfl (ho1.drewN _) _ rfl (by omega) hsz ?_; intro v2 w2 ho3 hb2 hc2 hat2)
        go_roundw
        case rel => exact ⟨k + 1, by omega, by go_num, by rw [X1.out]; exact ho3, by rw [X2.out]; exact (ho2.drewN q1).chg hc2 (fun b hb e => apart_not hap e hb), apart_grow hap hat2 (fun b hb => (ho2.lt b hb).2), (below_drewN hbr _).trans hb2⟩
        case measure => simp [intOf]; omega
      | false =>
        have X := front_no (ps := ps) hj h2
        have X1 := Lib.hid X.1; have X2 := Lib.hid X.2; clear X hj
        have hbo : bb < wr.heap.size := by simpa using World.block_lt_of_cell? wr _ hc
        go_wp2_with fail
        refine (l16Has _ _ _ (gp ps j).2 _ _ r2).mono ?_; rintro e w' ⟨rfl, q1, rfl⟩
        go_wp2_with (refine wpList_pushI rfl (.tmp 35) (.tmp 40) rfl _ _ (.slice Ay (restUp ps rec v k).length cy) (restUp ps rec v k) rfl (ho2.drewN _) _ rfl (by omega) hsz ?_; intro v2 w2 ho3 hb2 hc2 hat2)
        go_roundw
        case rel => exact ⟨k + 1, by omega, by go_num, by rw [X1.out]; exact (ho1.drewN q1).chg hc2 (fun b hb e => apart_not hap hb e), by rw [X2.out]; exact ho3, (apart_grow hap.symm hat2 (fun b hb => (ho1.lt b hb).2)).symm, (below_drewN hbr _).trans hb2⟩
        case measure => simp [intOf]; omega
    · obtain rfl : k = m := by omega
      have E := Lib.hid (show nextL ps rec v = frontUp ps rec v k ++ restUp ps rec v k by unfold nextL; rw [HM.out])
      have hnc := ho2.nilcap
      go_wp2_with (refine wpList_appI rfl (.tmp 42) (.tmp 43) rfl _ _ _ (frontUp ps rec v k) rfl ho1 _ _ _ _ rfl hnc ho2.reads (by omega) (by omega) hsz ?_; intro v2 w2 ho3 hb2 hc2 hat2)
      go_ret
      exact ⟨_, rfl, by rw [E.out]; exact ho3.more hB, (hbr.trans hb2).mono hB⟩

set_option maxRecDepth 100000 in
set_option maxHeartbeats 800000 in
theorem nextRecord (A C : Option Addr) (n c m d : Nat) (ps : List PairD) (rec : List Int) (v : Int) (w : World) (B : Nat) (hB : B ≤ w.heap.size) (ha : RPS w A n c ps) (hb : RI w C m d rec) (hp : ps.length ≤ 4) (hr : recOk rec ps.length = true) :
    Calls Try.prog 99 #[.slice A n c, .slice C m d, .int .i64 v] w fun e w' => ∃ u, e = .returned u ∧ OI 2 w' B u (nextL ps rec v) ∧ Below B w w' := by
  have b1 := ha.cap; have b2 := ha.top; have b3 := hb.cap; have b4 := hb.top
  have HL := Lib.hid ha.len; have HM := Lib.hid hb.len; have HR := Lib.hid hr
  have hm4 : m ≤ 4 := by have := rec_len hr; rw [HM.out] at this; exact this
  clear hr hp
  go_enter Try.func99, Try.ntmps99
  go_wp2
  go_loopw [7, 8, 15] (fun x y i wr => ∃ k : Nat, k ≤ m ∧ i = .int .i64 k ∧ OI 2 wr w.heap.size x (frontUp ps rec v k) ∧ OI 2 wr w.heap.size y (restUp ps rec v k) ∧ Apart x y ∧ Below w.heap.size w wr) (fun _ _ i _ => m - (intOf i).toNat)
  case atStart => exact ⟨0, Nat.zero_le _, rfl, (OI.empty (Nat.le_refl _)).below (below_alloc (Nat.le_refl _) (Below.refl _ _)), by have := OI.empty (E := 2) (w := w.alloc (.cells #[] 2)) (B := w.heap.size) (by simp); rw [show restUp ps rec v 0 = [] from rfl]; simpa using this, .inr (by simp [Value.ownBlock]), by repeat (first | with_reducible assumption | with_reducible exact Below.refl _ _ | with_reducible refine below_drewN ?_ _ | with_reducible refine Below.drew ?_ | with_reducible refine below_alloc (Nat.le_refl _) ?_)⟩
  case round =>
    obtain ⟨k, hk, rfl, ho1, ho2, hap, hbr⟩ := hrel
    obtain ⟨Ax, cx, rfl⟩ := ho1.form; obtain ⟨Ay, cy, rfl⟩ := ho2.form
    have u1 := front_len ps rec v k; have u2 := rest_len ps rec v k
    have hsz := hbr.size
    by_cases hlt : k < m
    · obtain ⟨j, hj, hjn⟩ := rec_at HL.out HM.out HR.out hlt
      obtain ⟨bb, off, rfl, hc⟩ := (hb.keep (keeps_below hbr)).at_ hlt
      rw [hj] at hc
      obtain ⟨b2, off2, A1, n1, c1, A2, n2, c2, rfl, hc1, hc2, r1, r2⟩ := (ha.keep (keeps_below hbr)).at_ hjn
      cases h2 : hasL (gp ps j).2 v with
      | true =>
        have X := front_yes (ps := ps) hj h2
        have X1 := Lib.hid X.1; have X2 := Lib.hid X.2; clear X hj
        go_wp2_with fail
        refine (slContains _ _ _ (gp ps j).2 _ _ r2).mono ?_; rintro e w' ⟨rfl, q1, rfl⟩
        go_wp2_with (refine wpList_pushI rfl (.tmp 26) (.tmp 28) rfl _ _ (.slice Ax (frontUp ps rec v k).length cx) (frontUp ps rec v k) rfl (ho1.drewN _) _ rfl (by omega) hsz ?_; intro v2 w2 ho3 hb2 hc2 hat2)
        go_roundw
        case rel => exact ⟨k + 1, by omega, by go_num, by rw [X1.out]; exact ho3, by rw [X2.out]; exact (ho2.drewN q1).chg hc2 (fun b hb e => apart_not hap e hb), apart_grow hap hat2 (fun b hb => (ho2.lt b hb).2), (below_drewN hbr _).trans hb2⟩
        case measure => simp [intOf]; omega
      | false =>
        have X := front_no (ps := ps) hj h2
        have X1 := Lib.hid X.1; have X2 := Lib.hid X.2; clear X hj
        go_wp2_with fail
        refine (slContains _ _ _ (gp ps j).2 _ _ r2).mono ?_; rintro e w' ⟨rfl, q1, rfl⟩
        go_wp2_with (refine wpList_pushI rfl (.tmp 30) (.tmp 32) rfl _ _ (.slice Ay (restUp ps rec v k).length cy) (restUp ps rec v k) rfl (ho2.drewN _) _ rfl (by omega) hsz ?_; intro v2 w2 ho3 hb2 hc2 hat2)
        go_roundw
        case rel => exact ⟨k + 1, by omega, by go_num, by rw [X1.out]; exact (ho1.drewN q1).chg hc2 (fun b hb e => apart_not hap hb e), by rw [X2.out]; exact ho3, (apart_grow hap.symm hat2 (fun b hb => (ho1.lt b hb).2)).symm, (below_drewN hbr _).trans hb2⟩
        case measure => simp [intOf]; omega
    · obtain rfl : k = m := by omega
      have E := Lib.hid (show nextL ps rec v = frontUp ps rec v k ++ restUp ps rec v k by unfold nextL; rw [HM.out])
      have hnc := ho2.nilcap
      go_wp2_with (refine wpList_appI rfl (.tmp 35) (.tmp 36) rfl _ _ _ (frontUp ps rec v k) rfl ho1 _ _ _ _ rfl hnc ho2.reads (by omega) (by omega) hsz ?_; intro v2 w2 ho3 hb2 hc2 hat2)
      go_ret
      exact ⟨_, rfl, by rw [E.out]; exact ho3.more hB, (hbr.trans hb2).mono hB⟩

set_option maxRecDepth 100000 in
theorem specRecordPrio (A : Option Addr) (n c : Nat) (ps : List PairD) (C : Option Addr) (m d : Nat) (rec : List Int) (v : Int) (w : World) (B : Nat) (hB : B ≤ w.heap.size) (ha : RPS w A n c ps) (hb : RI w C m d rec) :
    Calls Try.prog 52 #[.slice A n c, .slice C m d, .int .i64 v] w fun e w' => e = .returned (.int .i64 (recPrioR ps rec v)) ∧ Below B w w' := by
  cases h : canR ps rec v with
  | false =>
    have E := Lib.hid (show recPrioR ps rec v = -1 from if_neg (by rw [h]; simp))
    go_enter Try.func52, Try.ntmps52
    go_wp2_with fail
    refine (l17Right _ _ _ _ _ _ _ _ _ _ _ (Nat.le_refl _) ha hb).mono ?_; rintro e w1 ⟨rfl, hb1⟩
    go_wp2
    go_ret
    exact ⟨ret_i E.out.symm, hb1.mono hB⟩
  | true =>
    have E := Lib.hid (show recPrioR ps rec v = recPrioL ps rec v from if_pos h)
    have h' := h
    unfold canR at h'
    simp only [Bool.and_eq_true] at h'
    obtain ⟨⟨h1, h2⟩, _⟩ := h'
    have hf := (finePs_of h1 (by omega) (by omega)).1
    go_enter Try.func52, Try.ntmps52
    go_wp2_with fail
    refine (l17Right _ _ _ _ _ _ _ _ _ _ _ (Nat.le_refl _) ha hb).mono ?_; rintro e w1 ⟨rfl, hb1⟩
    go_wp2_with fail
    refine (l17Prio _ _ _ _ _ _ _ _ _ _ (ha.keep (keeps_below hb1)) (hb.keep (keeps_below hb1)) hf h2).mono ?_; rintro e w2 ⟨rfl, hq2⟩
    go_wp2
    go_ret
    exact ⟨ret_i E.out.symm, (below_qt hq2 hb1).mono hB⟩

set_option maxRecDepth 100000 in
theorem specNextRecord (A : Option Addr) (n c : Nat) (ps : List PairD) (C : Option Addr) (m d : Nat) (rec : List Int) (v : Int) (w : World) (B : Nat) (hB : B ≤ w.heap.size) (ha : RPS w A n c ps) (hb : RI w C m d rec) :
    Calls Try.prog 55 #[.slice A n c, .slice C m d, .int .i64 v] w fun e w' => ∃ u, e = .returned u ∧ OI 2 w' B u (nextR ps rec v) ∧ Below B w w' := by
  cases h : canR ps rec v with
  | false =>
    have E := Lib.hid (show nextR ps rec v = [] from if_neg (by rw [h]; simp))
    go_enter Try.func55, Try.ntmps55
    go_wp2_with fail
    refine (l17Right _ _ _ _ _ _ _ _ _ _ _ (Nat.le_refl _) ha hb).mono ?_; rintro e w1 ⟨rfl, hb1⟩
    go_wp2
    go_ret
    exact ⟨_, rfl, by rw [E.out]; exact OI.empty (Nat.le_trans hB hb1.size), below_alloc hB (hb1.mono hB)⟩
  | true =>
    have E := Lib.hid (show nextR ps rec v = nextL ps rec v from if_pos h)
    have h' := h
    unfold canR at h'
    simp only [Bool.and_eq_true] at h'
    obtain ⟨⟨h1, h2⟩, _⟩ := h'
    have hf := (finePs_of h1 (by omega) (by omega)).1
    go_enter Try.func55, Try.ntmps55
    go_wp2_with fail
    refine (l17Right _ _ _ _ _ _ _ _ _ _ _ (Nat.le_refl _) ha hb).mono ?_; rintro e w1 ⟨rfl, hb1⟩
    go_wp2_with fail
    refine (l17Next _ _ _ _ _ _ _ _ _ _ _ (Nat.le_refl _) (ha.keep (keeps_below hb1)) (hb.keep (keeps_below hb1)) hf h2).mono ?_; rintro e w2 ⟨u, rfl, ho, hb2⟩
    go_wp2
    go_ret
    exact ⟨_, rfl, by rw [E.out]; exact ho.more (Nat.le_trans hB hb1.size), (below_then hb2 hb1.size hb1).mono hB⟩

set_option maxRecDepth 100000 in
theorem implRecordPrio (A : Option Addr) (n c : Nat) (ps : List PairD) (C : Option Addr) (m d : Nat) (rec : List Int) (v : Int) (w : World) (B : Nat) (hB : B ≤ w.heap.size) (ha : RPS w A n c ps) (hb : RI w C m d rec) :
    Calls Try.prog 53 #[.slice A n c, .slice C m d, .int .i64 v] w fun e w' => e = .returned (.int .i64 (recPrioR ps rec v)) ∧ Below B w w' := by
  cases h : canR ps rec v with
  | false =>
    have E := Lib.hid (show recPrioR ps rec v = -1 from if_neg (by rw [h]; simp))
    go_enter Try.func53, Try.ntmps53
    go_wp2_with fail
    refine (canRecord _ _ _ _ _ _ _ _ _ _ _ (Nat.le_refl _) ha hb).mono ?_; rintro e w1 ⟨rfl, hb1⟩
    go_wp2
    go_ret
    exact ⟨ret_i E.out.symm, hb1.mono hB⟩
  | true =>
    have E := Lib.hid (show recPrioR ps rec v = recPrioL ps rec v from if_pos h)
    have h' := h
    unfold canR at h'
    simp only [Bool.and_eq_true] at h'
    obtain ⟨⟨h1, h2⟩, _⟩ := h'
    have hf := (finePs_of h1 (by omega) (by omega)).1
    go_enter Try.func53, Try.ntmps53
    go_wp2_with fail
    refine (canRecord _ _ _ _ _ _ _ _ _ _ _ (Nat.le_refl _) ha hb).mono ?_; rintro e w1 ⟨rfl, hb1⟩
    go_wp2_with fail
    refine (recordPrio _ _ _ _ _ _ _ _ _ _ (ha.keep (keeps_below hb1)) (hb.keep (keeps_below hb1)) hf h2).mono ?_; rintro e w2 ⟨rfl, hq2⟩
    go_wp2
    go_ret
    exact ⟨ret_i E.out.symm, (below_qt hq2 hb1).mono hB⟩

set_option maxRecDepth 100000 in
theorem implNextRecord (A : Option Addr) (n c : Nat) (ps : List PairD) (C : Option Addr) (m d : Nat) (rec : List Int) (v : Int) (w : World) (B : Nat) (hB : B ≤ w.heap.size) (ha : RPS w A n c ps) (hb : RI w C m d rec) :
    Calls Try.prog 56 #[.slice A n c, .slice C m d, .int .i64 v] w fun e w' => ∃ u, e = .returned u ∧ OI 2 w' B u (nextR ps rec v) ∧ Below B w w' := by
  cases h : canR ps rec v with
  | false =>
    have E := Lib.hid (show nextR ps rec v = [] from if_neg (by rw [h]; simp))
    go_enter Try.func56, Try.ntmps56
    go_wp2_with fail
    refine (canRecord _ _ _ _ _ _ _ _ _ _ _ (Nat.le_refl _) ha hb).mono ?_; rintro e w1 ⟨rfl, hb1⟩
    go_wp2
    go_ret
    exact ⟨_, rfl, by rw [E.out]; exact OI.nil _ _ _, hb1.mono hB⟩
  | true =>
    have E := Lib.hid (show nextR ps rec v = nextL ps rec v from if_pos h)
    have h' := h
    unfold canR at h'
    simp only [Bool.and_eq_true] at h'
    obtain ⟨⟨h1, h2⟩, _⟩ := h'
    have hf := (finePs_of h1 (by omega) (by omega)).1
    go_enter Try.func56, Try.ntmps56
    go_wp2_with fail
    refine (canRecord _ _ _ _ _ _ _ _ _ _ _ (Nat.le_refl _) ha hb).mono ?_; rintro e w1 ⟨rfl, hb1⟩
    go_wp2_with fail
    refine (nextRecord _ _ _ _ _ _ _ _ _ _ _ (Nat.le_refl _) (ha.keep (keeps_below hb1)) (hb.keep (keeps_below hb1)) hf h2).mono ?_; rintro e w2 ⟨u, rfl, ho, hb2⟩
    go_wp2
    go_ret
    exact ⟨_, rfl, by rw [E.out]; exact ho.more (Nat.le_trans hB hb1.size), (below_then hb2 hb1.size hb1).mono hB⟩

end Go.Proofs.Ytlepekglmofelaa
