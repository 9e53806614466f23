/- l16Meets, l16Broken, meets, brokenBy; MetWell and BrokenBy, spec and impl. MetWell and BrokenBy, spec and impl. -/
import Derived.Test.YtlmhhnplacejkaaLess
import Derived.Test.YtlmhhnplacejkaaPairs
namespace Go.Proofs.Ytlmhhnplacejkaa
open Go.RowKit

theorem meetB_of {a b : List Int} {k : Nat} (hk : k < a.length) (h : hasL b (gi a k) = true) : meetB a b = true := decide_eq_true ⟨gi a k, gi_mem hk, of_decide_eq_true h⟩
theorem meetB_no {a b : List Int} {n : Nat} (hl : a.length = n) (h : ∀ j, j < n → hasL b (gi a j) = false) : meetB a b = false := by
  refine decide_eq_false fun ⟨x, h1, h2⟩ => ?_
  obtain ⟨i, hi, rfl⟩ := mem_gi h1
  exact of_decide_eq_false (h i (by omega)) h2

set_option maxRecDepth 100000 in
theorem l16Meets (A C : Option Addr) (n c m d : Nat) (a b : List Int) (w : World) (ha : RI w A n c a) (hb : RI w C m d b) :
    Calls Try.prog 172 #[.slice A n c, .slice C m d] w fun e w' => e = .returned (.bool (meetB a b)) ∧ Qt w w' := by
  have b1 := ha.cap; have b2 := ha.top
  go_enter Try.func172, Try.ntmps172
  go_wp2
  go_loopw [5] (fun i wr => ∃ k : Nat, k ≤ n ∧ i = .int .i64 k ∧ (∀ j, j < k → hasL b (gi a j) = false) ∧ ∃ q, wr = w.drewN q) (fun i _ => n - (intOf i).toNat)
  case atStart => exact ⟨0, Nat.zero_le _, rfl, by omega, 0, rfl⟩
  case round =>
    obtain ⟨k, hk, rfl, hall, q, rfl⟩ := hrel
    have HA := Lib.hid hall
    clear hall
    by_cases hlt : k < n
    · obtain ⟨bb, off, rfl, hc1⟩ := ha.at_ hlt
      by_cases hp : hasL b (gi a k) = true
      · have E := Lib.hid (meetB_of (by rw [ha.len]; exact hlt) hp)
        go_wp2_with fail
        refine (l16Has _ _ _ _ _ _ (hb.keep (Qt.keeps ⟨_, rfl⟩))).mono ?_; rintro e w' ⟨rfl, q2, rfl⟩
        go_wp2
        go_ret
        exact ⟨ret_b E.out.symm, _, rfl⟩
      · have hp' : hasL b (gi a k) = false := by simpa using hp
        have HP := Lib.hid hp'
        clear hp
        go_wp2_with fail
        refine (l16Has _ _ _ _ _ _ (hb.keep (Qt.keeps ⟨_, rfl⟩))).mono ?_; rintro e w' ⟨rfl, q2, rfl⟩
        go_wp2
        go_roundw
        case rel => exact ⟨k + 1, by omega, by go_num, all_succ HA.out HP.out, _, rfl⟩
        case measure => simp [intOf]; omega
    · obtain rfl : k = n := by omega
      have E := Lib.hid (meetB_no ha.len HA.out)
      go_wp2
      go_ret
      exact ⟨ret_b E.out.symm, _, rfl⟩

set_option maxRecDepth 100000 in
theorem meets (A C : Option Addr) (n c m d : Nat) (a b : List Int) (w : World) (B : Nat) (hB : B ≤ w.heap.size) (ha : RI w A n c a) (hb : RI w C m d b) (hs : rises b) (hn : n ≤ 1048576) (hm : m ≤ 1048576) :
    Calls Try.prog 131 #[.slice A n c, .slice C m d] w fun e w' => e = .returned (.bool (meetB a b)) ∧ Below B w w' := by
  have b1 := ha.cap; have b2 := ha.top
  have E := Lib.hid (show decide ((lessL a b).length < n) = meetB a b by rw [← lessL_meet, ha.len])
  have hl := lessL_len a b
  rw [ha.len] at hl
  go_enter Try.func131, Try.ntmps131
  go_wp2_with fail
  refine (lessOf _ _ _ _ _ _ _ _ _ _ (Nat.le_refl _) ha hb hs hn hm).mono ?_; rintro e w1 ⟨v, rfl, ho, hb1⟩
  obtain ⟨Av, cv, rfl⟩ := ho.form
  go_wp2
  go_ret
  exact ⟨ret_b E.out, hb1.mono hB⟩

/-! ### the pairs that a set violates -/
def brokenAt (ps : List PairD) (met : List Int) (i : Nat) : Bool := meetB (gp ps i).1 met && !meetB (gp ps i).2 met
def brokenUp (ps : List PairD) (met : List Int) (k : Nat) : List Int := pick (brokenAt ps met) (fun i => (i : Int)) k
def brokenL (ps : List PairD) (met : List Int) : List Int := brokenUp ps met ps.length
theorem broken_len (ps : List PairD) (met : List Int) (k : Nat) : (brokenUp ps met k).length ≤ k := pick_len _ _ _
theorem broken_yes {ps : List PairD} {met : List Int} {k : Nat} (h1 : meetB (gp ps k).1 met = true) (h2 : meetB (gp ps k).2 met = false) : brokenUp ps met (k + 1) = brokenUp ps met k ++ [(k : Int)] := pick_yes (by unfold brokenAt; rw [h1, h2]; rfl)
theorem broken_no1 {ps : List PairD} {met : List Int} {k : Nat} (h1 : meetB (gp ps k).1 met = false) : brokenUp ps met (k + 1) = brokenUp ps met k := pick_no (by unfold brokenAt; rw [h1]; rfl)
theorem broken_no2 {ps : List PairD} {met : List Int} {k : Nat} (h2 : meetB (gp ps k).2 met = true) : brokenUp ps met (k + 1) = brokenUp ps met k := pick_no (by unfold brokenAt; rw [h2]; simp)
/-- pairs of sets of some size: what the walks ask of pairs that are in order -/
def finePs (ps : List PairD) : Prop := ps.length ≤ 4 ∧ ∀ i, i < ps.length → rises (gp ps i).1 ∧ rises (gp ps i).2 ∧ (gp ps i).1.length ≤ 1048576 ∧ (gp ps i).2.length ≤ 1048576
theorem finePs_of {ps : List PairD} {n : Int} (h : pairsB ps n = true) (h0 : 0 ≤ n) (hn : n ≤ 1048576) : finePs ps := by
  unfold pairsB at h
  rw [Bool.and_eq_true, List.all_eq_true] at h
  refine ⟨of_decide_eq_true h.1, fun i hi => ?_⟩
  have h2 := h.2 _ (gp_mem hi)
  rw [Bool.and_eq_true] at h2
  have h3 := set_len h2.1 h0
  have h4 := set_len h2.2 h0
  exact ⟨rises_set h2.1, rises_set h2.2, by omega, by omega⟩

set_option maxRecDepth 100000 in
set_option maxHeartbeats 400000 in
theorem l16Broken (A C : Option Addr) (n c m d : Nat) (ps : List PairD) (met : List Int) (w : World) (B : Nat) (hB : B ≤ w.heap.size) (ha : RPS w A n c ps) (hb : RI w C m d met) (hn : n ≤ 1048576) :
    Calls Try.prog 176 #[.slice A n c, .slice C m d] w fun e w' => ∃ v, e = .returned v ∧ OI 2 w' B v (brokenL ps met) ∧ Below B w w' := by
  have b1 := ha.cap; have b2 := ha.top
  have HL := Lib.hid ha.len
  go_enter Try.func176, Try.ntmps176
  go_wp2
  go_loopw [5, 6] (fun v i wr => ∃ k : Nat, k ≤ n ∧ i = .int .i64 k ∧ OI 2 wr w.heap.size v (brokenUp ps met k) ∧ Below w.heap.size w wr) (fun _ i _ => n - (intOf i).toNat)
  case atStart => exact ⟨0, Nat.zero_le _, rfl, OI.empty (Nat.le_refl _), by repeat (first | with_reducible assumption | with_reducible exact Below.refl _ _ | with_reducible refine below_drewN ?_ _ | with_reducible refine Below.drew ?_ | with_reducible refine below_alloc (Nat.le_refl _) ?_)⟩
  case round =>
    obtain ⟨k, hk, rfl, ho, hbr⟩ := hrel
    have hup := broken_len ps met k
    have hsz := hbr.size
    by_cases hlt : k < n
    · obtain ⟨bb, off, A1, n1, c1, A2, n2, c2, rfl, hc1, hc2, r1, r2⟩ := (ha.keep (keeps_below hbr)).at_ hlt
      have hb' := hb.keep (keeps_below hbr)
      by_cases h1 : meetB (gp ps k).1 met = true
      · by_cases h2 : meetB (gp ps k).2 met = true
        · have HX := Lib.hid (broken_no2 (ps := ps) h2)
          go_wp2_with fail
          refine (l16Meets _ _ _ _ _ _ (gp ps k).1 _ _ r1 hb').mono ?_; rintro e w' ⟨rfl, q, rfl⟩
          go_wp2_with fail
          refine (l16Meets _ _ _ _ _ _ (gp ps k).2 _ _ (r2.keep (Qt.keeps ⟨_, rfl⟩)) (hb'.keep (Qt.keeps ⟨_, rfl⟩))).mono ?_; rintro e w' ⟨rfl, q2, rfl⟩
          go_wp2
          go_roundw
          case rel => exact ⟨k + 1, by omega, by go_num, by rw [HX.out]; exact ho, below_drewN hbr _⟩
          case measure => simp [intOf]; omega
        · have h2' : meetB (gp ps k).2 met = false := by simpa using h2
          have HX := Lib.hid (broken_yes h1 h2')
          clear h2
          go_wp2_with fail
          refine (l16Meets _ _ _ _ _ _ (gp ps k).1 _ _ r1 hb').mono ?_; rintro e w' ⟨rfl, q, rfl⟩
          go_wp2_with fail
          refine (l16Meets _ _ _ _ _ _ (gp ps k).2 _ _ (r2.keep (Qt.keeps ⟨_, rfl⟩)) (hb'.keep (Qt.keeps ⟨_, rfl⟩))).mono ?_; rintro e w' ⟨rfl, q2, rfl⟩
          go_wp2_with (refine wpList_pushI rfl (.tmp 31) (.tmp 33) rfl _ _ _ (brokenUp ps met k) rfl (ho.drewN _) _ rfl (by omega) hsz ?_; intro v2 w2 ho2 hb2 hc2 hat2)
          go_roundw
          case rel => exact ⟨k + 1, by omega, by go_num, by rw [HX.out]; exact ho2, (below_drewN hbr _).trans hb2⟩
          case measure => simp [intOf]; omega
      · have h1' : meetB (gp ps k).1 met = false := by simpa using h1
        have HX := Lib.hid (broken_no1 (ps := ps) h1')
        clear h1
        go_wp2_with (go_at_call 172; refine (l16Meets _ _ _ _ _ _ (gp ps k).1 _ _ r1 hb').mono ?_; rintro e w' ⟨rfl, q, rfl⟩)
        go_roundw
        case rel => exact ⟨k + 1, by omega, by go_num, by rw [HX.out]; exact ho, below_drewN hbr _⟩
        case measure => simp [intOf]; omega
    · obtain rfl : k = n := by omega
      have HE := Lib.hid (show brokenUp ps met k = brokenL ps met by rw [← HL.out]; rfl)
      go_wp2
      go_ret
      exact ⟨_, rfl, by rw [← HE.out]; exact ho.more hB, hbr.mono hB⟩

set_option maxRecDepth 100000 in
set_option maxHeartbeats 400000 in
theorem brokenBy (A C : Option Addr) (n c m d : Nat) (ps : List PairD) (met : List Int) (w : World) (B : Nat) (hB : B ≤ w.heap.size) (ha : RPS w A n c ps) (hb : RI w C m d met) (hf : finePs ps) (hm : m ≤ 1048576) :
    Calls Try.prog 82 #[.slice A n c, .slice C m d] w fun e w' => ∃ v, e = .returned v ∧ OI 2 w' B v (brokenL ps met) ∧ Below B w w' := by
  have b1 := ha.cap; have b2 := ha.top
  have HL := Lib.hid ha.len
  have HF := Lib.hid hf
  have hn4 : n ≤ 4 := by have := hf.1; rw [ha.len] at this; exact this
  clear hf
  go_enter Try.func82, Try.ntmps82
  go_wp2
  go_loopw [5, 11] (fun v i wr => ∃ k : Nat, k ≤ n ∧ i = .int .i64 k ∧ OI 2 wr w.heap.size v (brokenUp ps met k) ∧ Below w.heap.size w wr) (fun _ i _ => n - (intOf i).toNat)
  case atStart => exact ⟨0, Nat.zero_le _, rfl, OI.empty (Nat.le_refl _), by repeat (first | with_reducible assumption | with_reducible exact Below.refl _ _ | with_reducible refine below_drewN ?_ _ | with_reducible refine Below.drew ?_ | with_reducible refine below_alloc (Nat.le_refl _) ?_)⟩
  case round =>
    obtain ⟨k, hk, rfl, ho, hbr⟩ := hrel
    have hup := broken_len ps met k
    have hsz := hbr.size
    by_cases hlt : k < n
    · obtain ⟨bb, off, A1, n1, c1, A2, n2, c2, rfl, hc1, hc2, r1, r2⟩ := (ha.keep (keeps_below hbr)).at_ hlt
      obtain ⟨s1, s2, l1, l2⟩ := HF.out.2 k (by rw [HL.out]; exact hlt)
      rw [r1.len] at l1
      rw [r2.len] at l2
      have hba : Below wr.heap.size wr (wr.alloc (.cells #[.slice A1 n1 c1, .slice A2 n2 c2] 96)) := below_alloc (Nat.le_refl _) (Below.refl _ _)
      have bx := Box.new wr 96 #[.slice A1 n1 c1, .slice A2 n2 c2]
      have hb' := (hb.keep (keeps_below hbr)).keep (keeps_below hba)
      replace r1 := r1.keep (keeps_below hba)
      replace r2 := r2.keep (keeps_below hba)
      by_cases h1 : meetB met (gp ps k).1 = true
      · by_cases h2 : meetB met (gp ps k).2 = true
        · have HX := Lib.hid (broken_no2 (ps := ps) (show meetB (gp ps k).2 met = true by rw [meetB_comm]; exact h2))
          go_wp2_with fail
          refine (meets _ _ _ _ _ _ met (gp ps k).1 _ _ (Nat.le_refl _) hb' r1 s1 hm l1).mono ?_; rintro e w1 ⟨rfl, hb1⟩
          have bx1 := bx.below hb1 bx.lt
          have q1 : w1.cell? ⟨wr.heap.size, 1, none⟩ = some (.slice A2 n2 c2) := bx1.cell 1
          go_wp2_with fail
          refine (meets _ _ _ _ _ _ met (gp ps k).2 _ _ (Nat.le_refl _) (hb'.keep (keeps_below hb1)) (r2.keep (keeps_below hb1)) s2 hm l2).mono ?_; rintro e w2 ⟨rfl, hb2⟩
          have hx1 := below_then hb1 hba.size hba
          have hx2 := below_then hb2 hx1.size hx1
          go_wp2
          go_roundw
          case rel => exact ⟨k + 1, by omega, by go_num, by rw [HX.out]; exact ho.below hx2, below_then hx2 hsz hbr⟩
          case measure => simp [intOf]; omega
        · have h2' : meetB met (gp ps k).2 = false := by simpa using h2
          have HX := Lib.hid (broken_yes (ps := ps) (show meetB (gp ps k).1 met = true by rw [meetB_comm]; exact h1) (show meetB (gp ps k).2 met = false by rw [meetB_comm]; exact h2'))
          clear h2
          go_wp2_with fail
          refine (meets _ _ _ _ _ _ met (gp ps k).1 _ _ (Nat.le_refl _) hb' r1 s1 hm l1).mono ?_; rintro e w1 ⟨rfl, hb1⟩
          have bx1 := bx.below hb1 bx.lt
          have q1 : w1.cell? ⟨wr.heap.size, 1, none⟩ = some (.slice A2 n2 c2) := bx1.cell 1
          go_wp2_with fail
          refine (meets _ _ _ _ _ _ met (gp ps k).2 _ _ (Nat.le_refl _) (hb'.keep (keeps_below hb1)) (r2.keep (keeps_below hb1)) s2 hm l2).mono ?_; rintro e w2 ⟨rfl, hb2⟩
          have hx1 := below_then hb1 hba.size hba
          have hx2 := below_then hb2 hx1.size hx1
          have hx2s := hx2.size
          go_wp2_with (refine wpList_pushI rfl (.tmp 27) (.tmp 29) rfl _ _ _ (brokenUp ps met k) rfl (ho.below hx2) _ rfl (by omega) (by omega) ?_; intro v2 w3 ho2 hb3 hc3 hat3)
          go_roundw
          case rel => exact ⟨k + 1, by omega, by go_num, by rw [HX.out]; exact ho2, (below_then hx2 hsz hbr).trans hb3⟩
          case measure => simp [intOf]; omega
      · have h1' : meetB met (gp ps k).1 = false := by simpa using h1
        have HX := Lib.hid (broken_no1 (ps := ps) (show meetB (gp ps k).1 met = false by rw [meetB_comm]; exact h1'))
        clear h1
        go_wp2_with fail
        refine (meets _ _ _ _ _ _ met (gp ps k).1 _ _ (Nat.le_refl _) hb' r1 s1 hm l1).mono ?_; rintro e w1 ⟨rfl, hb1⟩
        have hx1 := below_then hb1 hba.size hba
        go_wp2
        go_roundw
        case rel => exact ⟨k + 1, by omega, by go_num, by rw [HX.out]; exact ho.below hx1, below_then hx1 hsz hbr⟩
        case measure => simp [intOf]; omega
    · obtain rfl : k = n := by omega
      have HE := Lib.hid (show brokenUp ps met k = brokenL ps met by rw [← HL.out]; rfl)
      go_wp2
      go_ret
      exact ⟨_, rfl, by rw [← HE.out]; exact ho.more hB, hbr.mono hB⟩
end Go.Proofs.Ytlmhhnplacejkaa
namespace Go.Proofs.Ytlmhhnplacejkaa
open Go.RowKit

noncomputable def okPM (ps : List PairD) (met : List Int) : Bool := pairsB ps 256 && setB met 256
noncomputable def brokenR (ps : List PairD) (met : List Int) : List Int := if okPM ps met = true then brokenL ps met else []
noncomputable def metW (ps : List PairD) (met : List Int) : Bool := okPM ps met && (brokenL ps met).length == 0
theorem in256 : inR 256 0 256 = true := by decide
theorem in256a (b : Bool) : (inR 256 0 256 && b) = b := by rw [in256]; rfl
theorem brokenR_len (ps : List PairD) (met : List Int) : (brokenR ps met).length ≤ 4 := by
  unfold brokenR
  split
  · rename_i h
    unfold okPM pairsB at h
    simp only [Bool.and_eq_true] at h
    have := of_decide_eq_true h.1.1
    have := broken_len ps met ps.length
    unfold brokenL
    omega
  · simp

set_option maxRecDepth 100000 in
set_option maxHeartbeats 400000 in
theorem implMetWell (A C : Option Addr) (n c m d : Nat) (ps : List PairD) (met : List Int) (w : World) (B : Nat) (hB : B ≤ w.heap.size) (ha : RPS w A n c ps) (hb : RI w C m d met) :
    Calls Try.prog 21 #[.slice A n c, .slice C m d] w fun e w' => e = .returned (.bool (metW ps met)) ∧ Below B w w' := by
  have b1 := ha.cap; have b2 := ha.top; have b3 := hb.cap; have b4 := hb.top
  have L1 := ha.len; have L2 := hb.len
  have HL1 := Lib.hid L1; have HL2 := Lib.hid L2
  clear L1 L2
  by_cases h1 : pairsB ps 256 = true
  · by_cases h2 : setB met 256 = true
    · have HO := Lib.hid (show okPM ps met = true by unfold okPM; rw [h1, h2]; rfl)
      have hf := finePs_of h1 (by omega) (by omega)
      have hn : n ≤ 1048576 := by have := hf.1; rw [HL1.out] at this; omega
      have hm : m ≤ 1048576 := by have := set_len h2 (by omega); rw [HL2.out] at this; omega
      by_cases h3 : (brokenL ps met).length = 0
      · have E := Lib.hid (show metW ps met = true by unfold metW; rw [HO.out, h3]; rfl)
        have h4 : (((brokenL ps met).length : Int) == 0) = true := by rw [h3]; rfl
        clear h3
        go_enter Try.func21, Try.ntmps21
        go_wp2_with fail
        refine (arePairs _ _ _ _ _ _ _ (Nat.le_refl _) ha).mono ?_; rintro e w1 ⟨rfl, hb1⟩
        go_wp2_with fail
        refine (isSet _ _ _ _ _ _ (hb.keep (keeps_below hb1))).mono ?_; rintro e w2 ⟨rfl, hq2⟩
        have hb2 := below_qt hq2 hb1
        go_wp2_with fail
        refine (brokenBy _ _ _ _ _ _ _ _ _ _ (Nat.le_refl _) (ha.keep (keeps_below hb2)) (hb.keep (keeps_below hb2)) hf hm).mono ?_; rintro e w3 ⟨v, rfl, ho, hb3⟩
        obtain ⟨Av, cv, rfl⟩ := ho.form
        have hb4 := below_then hb3 hb2.size hb2
        go_wp2
        go_ret
        exact ⟨ret_b E.out.symm, hb4.mono hB⟩
      · have E := Lib.hid (show metW ps met = false by unfold metW; rw [HO.out]; simpa using h3)
        have h4 : (((brokenL ps met).length : Int) == 0) = false := beq_eq_false_iff_ne.2 (by omega)
        clear h3
        go_enter Try.func21, Try.ntmps21
        go_wp2_with fail
        refine (arePairs _ _ _ _ _ _ _ (Nat.le_refl _) ha).mono ?_; rintro e w1 ⟨rfl, hb1⟩
        go_wp2_with fail
        refine (isSet _ _ _ _ _ _ (hb.keep (keeps_below hb1))).mono ?_; rintro e w2 ⟨rfl, hq2⟩
        have hb2 := below_qt hq2 hb1
        go_wp2_with fail
        refine (brokenBy _ _ _ _ _ _ _ _ _ _ (Nat.le_refl _) (ha.keep (keeps_below hb2)) (hb.keep (keeps_below hb2)) hf hm).mono ?_; rintro e w3 ⟨v, rfl, ho, hb3⟩
        obtain ⟨Av, cv, rfl⟩ := ho.form
        have hb4 := below_then hb3 hb2.size hb2
        go_wp2
        go_ret
        exact ⟨ret_b E.out.symm, hb4.mono hB⟩
    · replace h2 : setB met 256 = false := by simpa using h2
      have HO := Lib.hid (show okPM ps met = false by unfold okPM; rw [h2]; simp)
      have E := Lib.hid (show metW ps met = false by unfold metW; rw [HO.out]; rfl)
      go_enter Try.func21, Try.ntmps21
      go_wp2_with fail
      refine (arePairs _ _ _ _ _ _ _ (Nat.le_refl _) ha).mono ?_; rintro e w1 ⟨rfl, hb1⟩
      go_wp2_with fail
      refine (isSet _ _ _ _ _ _ (hb.keep (keeps_below hb1))).mono ?_; rintro e w2 ⟨rfl, hq2⟩
      have hb2 := below_qt hq2 hb1
      go_wp2
      go_ret
      exact ⟨ret_b E.out.symm, hb2.mono hB⟩
  · replace h1 : pairsB ps 256 = false := by simpa using h1
    have HO := Lib.hid (show okPM ps met = false by unfold okPM; rw [h1]; rfl)
    have E := Lib.hid (show metW ps met = false by unfold metW; rw [HO.out]; rfl)
    go_enter Try.func21, Try.ntmps21
    go_wp2_with fail
    refine (arePairs _ _ _ _ _ _ _ (Nat.le_refl _) ha).mono ?_; rintro e w1 ⟨rfl, hb1⟩
    go_wp2
    go_ret
    exact ⟨ret_b E.out.symm, hb1.mono hB⟩

end Go.Proofs.Ytlmhhnplacejkaa
