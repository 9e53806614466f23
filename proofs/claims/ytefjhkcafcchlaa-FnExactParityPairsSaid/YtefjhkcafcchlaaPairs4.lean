/- markPairS, heldPairS. -/
import Derived.Test.YtefjhkcafcchlaaPairs3
import Derived.Test.YtefjhkcafcchlaaUse
namespace Go.Proofs.Ytefjhkcafcchlaa
open Go.RowKit

theorem eqPs_self (ps : List PairD) : eqPs ps ps = true := by simp [eqPs]
/-- a row of rows, those ahead of m turned from G to F: one more is turned -/
theorem OL.turn {E : TypeId} {w w2 : World} {lo m : Nat} {cs : List Value} {F G : Nat → List Int} {u : Value} (h : OL E w lo cs (fun i => if i < m then F i else G i)) (hd : Dis cs) (hm : m < cs.length) (hu : gv cs m = u) (hn : OI E w2 lo u (F m)) (hg : w.grownBy w2 u.ownBlock) :
    OL E w2 lo cs (fun i => if i < m + 1 then F i else G i) := by
  intro i hi
  by_cases e : i = m
  · subst e
    dsimp only
    rw [if_pos (by omega), hu]
    exact hn
  · have hap := hd i m hi hm e
    rw [hu] at hap
    have := (h i hi).chg (Chg.of_grown hg) (fun b hb hs => apart_not hap hb hs)
    dsimp only at this ⊢
    by_cases h3 : i < m
    · rw [if_pos h3] at this; rw [if_pos (by omega)]; exact this
    · rw [if_neg h3] at this; rw [if_neg (by omega)]; exact this
theorem OL.turned {E : TypeId} {w : World} {lo m : Nat} {cs : List Value} {F G : Nat → List Int} (h : OL E w lo cs (fun i => if i < m then F i else G i)) (hm : cs.length ≤ m) : OL E w lo cs F := h.congr fun i hi => by rw [if_pos (by omega)]
theorem OL.turn0 {E : TypeId} {w : World} {lo : Nat} {cs : List Value} {F G : Nat → List Int} (h : OL E w lo cs G) : OL E w lo cs (fun i => if i < 0 then F i else G i) := h.congr fun i _ => by simp
/-- the row at m, as it stands -/
theorem OL.next {E : TypeId} {w : World} {lo m : Nat} {cs : List Value} {F G : Nat → List Int} (h : OL E w lo cs (fun i => if i < m then F i else G i)) (hm : m < cs.length) : OI E w lo (gv cs m) (G m) := by
  have := h m hm
  simpa using this

def totP (ps : List PairD) : Nat := (ps.map szP).sum
theorem totP_sum (ps : List PairD) (k : Nat) : totP (ps.take k) = sumP ps k := rfl
def mkP : Int → List PairD → List PairD
  | _, [] => []
  | k, p :: r => (upto k p.1.length, upto (k + p.1.length) p.2.length) :: mkP (k + p.1.length + p.2.length) r
theorem mkP_len : ∀ (xs : List PairD) (k : Int), (mkP k xs).length = xs.length
  | [], _ => rfl
  | x :: r, k => by simp [mkP, mkP_len r]
theorem mkP_at : ∀ (xs : List PairD) (k : Int) (i : Nat), i < xs.length → gp (mkP k xs) i = (upto (k + sumP xs i) (gp xs i).1.length, upto (k + sumP xs i + (gp xs i).1.length) (gp xs i).2.length)
  | [], _, i, h => absurd h (by simp)
  | x :: r, k, 0, _ => by simp [mkP, gp, sumP]
  | x :: r, k, i + 1, h => by
    have h' : i < r.length := by simpa using h
    have := mkP_at r (k + x.1.length + x.2.length) i h'
    simp only [mkP, gp, List.getD_cons_succ] at this ⊢
    rw [this]
    have e : (k + x.1.length + x.2.length + (sumP r i : Nat) : Int) = k + (sumP (x :: r) (i + 1) : Nat) := by
      simp only [sumP, List.take_succ_cons, List.map_cons, List.sum_cons, szP]
      omega
    rw [e]
theorem sumP_le (ps : List PairD) (k : Nat) : sumP ps k ≤ totP ps := by
  unfold sumP totP
  conv => rhs; rw [← List.take_append_drop k ps]
  rw [List.map_append, List.sum_append]
  omega
theorem sumP_len {ps : List PairD} {k : Nat} (h : ps.length = k) : sumP ps k = totP ps := by
  unfold sumP totP
  rw [List.take_of_length_le (by omega)]
theorem totP_sz (ps : List PairD) : totP ps ≤ szPs ps := by unfold totP szPs; omega

theorem OPS.hold {lo : Nat} {v : Value} {ps : List PairD} {wb w : World} (h : OPS wb lo v ps) (f : Far lo wb w) : OPS w lo v ps := by
  obtain ⟨cs, h1, h2, h3⟩ := h
  exact ⟨cs, row_hold h1 f, h2.hold f, h3⟩
theorem OPS.more {w : World} {lo lo' : Nat} {v : Value} {ps : List PairD} (h : OPS w lo v ps) (hl : lo' ≤ lo) : OPS w lo' v ps := by
  obtain ⟨cs, h1, h2, h3⟩ := h
  exact ⟨cs, row_more h1 hl, h2.more hl, h3⟩

set_option maxRecDepth 100000 in
set_option maxHeartbeats 800000 in
theorem markPairSU (A : Option Addr) (n c : Nat) (ps : List PairD) (k : Int) (w : World) (lo : Nat) (wb : World) (hlo : lo ≤ wb.heap.size) (ho : OPS wb lo (.slice A n c) ps) (hb : Far lo wb w) (hk0 : 0 ≤ k) (hk1 : k + totP ps ≤ 4611686018427387904) :
    Calls Try.prog 64 #[.slice A n c, .int .i64 k] w fun e w' => e = .returned (.int .i64 (k + totP ps)) ∧ OPS w' lo (.slice A n c) (mkP k ps) ∧ Chg (fun b => lo ≤ b ∧ b < wb.heap.size) w w' := by
  obtain ⟨cs, r0, l0, hd⟩ := ho
  have lt0 : ∀ i, i < cs.length → ∀ b, (gv cs i).ownBlock = some b → lo ≤ b ∧ b < wb.heap.size := fun i hi b hbb => (l0 i hi).lt b hbb
  have r1 := row_hold r0 hb
  have l1 := (l0.hold hb).turn0 (F := fl (mkP k ps))
  clear r0 l0
  have hlen := row_len r1
  obtain ⟨A0, c0, e0, q1, q2, hg⟩ := row_form r1
  injection e0 with e1 e2 e3
  subst e1; subst e3
  have HL := Lib.hid e2.symm
  rw [← e2] at r1 hlen hg q1
  clear e2
  have HLEN := Lib.hid hlen
  have HD := Lib.hid hd
  have HT := Lib.hid lt0
  have HR1 := Lib.hid r1
  have HL1 := Lib.hid l1
  clear hlen hd lt0 r1 l1
  have htl := sumP_le ps
  go_enter Try.func64, Try.ntmps64
  go_wp2
  go_loopw [1, 5] (fun s i wr => ∃ (j : Nat) (r : Int), j ≤ n ∧ i = .int .i64 j ∧ s = .int .i64 r ∧ 0 ≤ r ∧ r = k + sumP ps j ∧
      wr.ownsRow lo 128 2 (.slice A n c) n cs ∧ OL 2 wr lo cs (fun i => if i < j * 2 then fl (mkP k ps) i else fl ps i) ∧ Chg (fun b => lo ≤ b ∧ b < wb.heap.size) w wr) (fun _ i _ => n - (intOf i).toNat)
  case atStart => exact ⟨0, k, Nat.zero_le _, rfl, rfl, hk0, by simp [sumP], HR1.out, HL1.out, Chg.refl _ _⟩
  case round =>
    obtain ⟨j, r, hj, rfl, rfl, hr0, hr2, hrow, hol, hch⟩ := hrel
    have HR := Lib.hid hr2
    have HW := Lib.hid hrow
    have HO := Lib.hid hol
    have HC := Lib.hid hch
    clear hr2 hrow hol hch
    by_cases hlt : j < n
    · obtain ⟨g, rfl⟩ := hg (by omega)
      have m1 : j * 2 < cs.length := by rw [HLEN.out]; omega
      have m2 : j * 2 + 1 < cs.length := by rw [HLEN.out]; omega
      have o1 := HO.out.next m1
      rw [fl_even] at o1
      obtain ⟨A1, c1, e1⟩ := o1.form
      have k1 := row_cell HW.out (j := j * 2) (by omega)
      have k2 := row_cell HW.out (j := j * 2 + 1) (by omega)
      have w1 := own_ne o1 HW.out (by decide)
      rw [e1] at o1 k1 w1
      have E1 := Lib.hid e1
      clear e1
      have hsum : sumP ps (j + 1) = sumP ps j + szP (gp ps j) := sumP_succ (by rw [HL.out]; exact hlt)
      have hle := htl (j + 1)
      have hat := mkP_at ps k j (by rw [HL.out]; exact hlt)
      rw [← HR.out] at hat
      have F1 : fl (mkP k ps) (j * 2) = upto r (gp ps j).1.length := by rw [fl_even, hat]
      have F2 : fl (mkP k ps) (j * 2 + 1) = upto (r + (gp ps j).1.length) (gp ps j).2.length := by rw [fl_odd, hat]
      unfold szP at hsum
      have hkk1 : r + (gp ps j).1.length ≤ 4611686018427387904 := by have := HR.out; omega
      have hkk2 : r + (gp ps j).1.length + (gp ps j).2.length ≤ 4611686018427387904 := by have := HR.out; omega
      have hpos : 0 ≤ r + (gp ps j).1.length := by omega
      have HF1 := Lib.hid F1
      have HF2 := Lib.hid F2
      have HS := Lib.hid hsum
      have hgw : (⟨g, j * 2, none⟩ : Addr).block = g := rfl
      clear hat hsum hle F1 F2 hgw
      go_wp2_with fail
      refine (markInts _ _ _ _ _ _ _ o1 hr0 hkk1).mono ?_; rintro e w2 ⟨rfl, ho2, hg2⟩
      have hc2 := Chg.of_grown hg2
      have hrow2 := row_chg HW.out hc2 (fun b hb hs => w1 b hs hb)
      have hol2 := HO.out.turn HD.out m1 E1.out (by rw [HF1.out]; exact ho2) hg2
      have o2 := hol2.next m2
      rw [fl_odd] at o2
      obtain ⟨A2, c2, e2⟩ := o2.form
      have k2' := row_cell hrow2 (j := j * 2 + 1) (by omega)
      have w2' := own_ne o2 hrow2 (by decide)
      rw [e2] at o2 k2' w2'
      have E2 := Lib.hid e2
      have HO2 := Lib.hid hol2
      have HW2 := Lib.hid hrow2
      have HC2 := Lib.hid (HC.out.trans hc2 (fun _ h => h) (fun b hb => by
        have := HT.out (j * 2) m1 b
        rw [E1.out] at this
        exact this hb))
      clear e2 hol2 hrow2 hc2 k1 k2 w1 ho2 hg2
      go_wp2_with fail
      refine (markInts _ _ _ _ _ _ _ o2 hpos hkk2).mono ?_; rintro e w3 ⟨rfl, ho3, hg3⟩
      have hc3 := Chg.of_grown hg3
      have HW3 := Lib.hid (row_chg HW2.out hc3 (fun b hb hs => w2' b hs hb))
      have HO3 := Lib.hid (HO2.out.turn HD.out m2 E2.out (by rw [HF2.out]; exact ho3) hg3)
      have HC3 := Lib.hid (HC2.out.trans hc3 (fun _ h => h) (fun b hb => by
        have := HT.out (j * 2 + 1) m2 b
        rw [E2.out] at this
        exact this hb))
      clear hc3 ho3 hg3 k2' w2'
      go_wp2
      go_roundw
      case rel => exact ⟨j + 1, r + (gp ps j).1.length + (gp ps j).2.length, by omega, by go_num, rfl, by omega, by rw [HS.out, HR.out]; omega, HW3.out, by rw [show (j + 1) * 2 = j * 2 + 1 + 1 from by omega]; exact HO3.out, HC3.out⟩
      case measure => simp [intOf]; omega
    · obtain rfl : j = n := by omega
      go_wp2
      go_ret
      refine ⟨ret_i (by rw [HR.out, sumP_len HL.out]), ⟨cs, by rw [mkP_len, HL.out]; exact HW.out, HO.out.turned (by rw [HLEN.out]; omega), HD.out⟩, HC.out⟩

set_option maxRecDepth 100000 in
set_option maxHeartbeats 400000 in
theorem heldPairS (A : Option Addr) (n c : Nat) (ps : List PairD) (k : Int) (w : World) (B : Nat) (hB : B ≤ w.heap.size) (ho : RPS w A n c (mkP k ps)) (hk0 : 0 ≤ k) (hk1 : k + totP ps ≤ 4611686018427387904) :
    Calls Try.prog 65 #[.slice A n c, .int .i64 k] w fun e w' => e = .returned (.int .i64 (k + totP ps)) ∧ Below B w w' := by
  have b1 := ho.cap; have b2 := ho.top
  have hl : ps.length = n := by rw [← ho.len, mkP_len]
  have HL := Lib.hid hl
  clear hl
  have htl := sumP_le ps
  go_enter Try.func65, Try.ntmps65
  go_wp2
  go_loopw [1, 5] (fun s i wr => ∃ (j : Nat) (r : Int), j ≤ n ∧ i = .int .i64 j ∧ s = .int .i64 r ∧ 0 ≤ r ∧ r = k + sumP ps j ∧ ∃ q, wr = w.drewN q) (fun _ i _ => n - (intOf i).toNat)
  case atStart => exact ⟨0, k, Nat.zero_le _, rfl, rfl, hk0, by simp [sumP], 0, rfl⟩
  case round =>
    obtain ⟨j, r, hj, rfl, rfl, hr0, hr2, q, rfl⟩ := hrel
    have HR := Lib.hid hr2
    clear hr2
    by_cases hlt : j < n
    · obtain ⟨b, off, A1, n1, c1, A2, n2, c2, rfl, hc1, hc2, r1, r2⟩ := ho.at_ hlt
      have hat := mkP_at ps k j (by rw [HL.out]; exact hlt)
      rw [← HR.out] at hat
      rw [hat] at r1 r2
      obtain rfl : n1 = (gp ps j).1.length := by rw [← r1.len, upto_len]
      obtain rfl : n2 = (gp ps j).2.length := by rw [← r2.len, upto_len]
      have hsum : sumP ps (j + 1) = sumP ps j + szP (gp ps j) := sumP_succ (by rw [HL.out]; exact hlt)
      have hle := htl (j + 1)
      unfold szP at hsum
      have hkk1 : r + (gp ps j).1.length ≤ 4611686018427387904 := by have := HR.out; omega
      have hkk2 : r + (gp ps j).1.length + (gp ps j).2.length ≤ 4611686018427387904 := by have := HR.out; omega
      have hpos : 0 ≤ r + (gp ps j).1.length := by omega
      have hpos2 : 0 ≤ r + (gp ps j).1.length + (gp ps j).2.length := by omega
      have HS := Lib.hid hsum
      clear hat hsum hle
      go_wp2_with fail
      refine (heldInts _ _ _ _ _ (r1.keep (Qt.keeps ⟨_, rfl⟩)) hr0 hkk1).mono ?_; rintro e w2 ⟨rfl, q2, rfl⟩
      go_wp2_with fail
      refine (heldInts _ _ _ _ _ (r2.keep (Qt.keeps ⟨_, rfl⟩)) hpos hkk2).mono ?_; rintro e w3 ⟨rfl, q3, rfl⟩
      go_wp2
      go_roundw
      case rel => exact ⟨j + 1, r + (gp ps j).1.length + (gp ps j).2.length, by omega, by go_num, rfl, by omega, by rw [HS.out, HR.out]; omega, _, rfl⟩
      case measure => simp [intOf]; omega
    · obtain rfl : j = n := by omega
      go_wp2
      go_ret
      exact ⟨ret_i (by rw [HR.out, sumP_len HL.out]), below_drewN (Below.refl _ _) _⟩
end Go.Proofs.Ytefjhkcafcchlaa
