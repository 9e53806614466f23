/- RaisedGame, spec and impl. -/
import Derived.Test.YtngadlpfheakiaaCopyP
import Derived.Test.YtngadlpfheakiaaGame2
import Derived.Test.YtngadlpfheakiaaMore
import Derived.Test.YtngadlpfheakiaaPlan
import Derived.Test.YtngadlpfheakiaaAttr
import Derived.Deep.RegionHeld3
import Derived.Test.YtngadlpfheakiaaHand
namespace Go.Proofs.Ytngadlpfheakiaa
open Go.RowKit

def raiseUp (g : ParD) (by_ : Int) (k : Nat) : ParD := (g.1.take k, g.2.1.take k, (g.2.2.take k).map (· + 2 * by_))
noncomputable def okRaise (g : ParD) (by_ : Int) : Bool := parB g && (inR by_ 0 40 && decide (∀ i, i < g.2.2.length → gi g.2.2 i + 2 * by_ ≤ 40))
noncomputable def raiseG (g : ParD) (by_ : Int) : ParD := if okRaise g by_ = true then raiseUp g by_ g.2.2.length else ([], [], [])
theorem raise_par {g : ParD} {by_ : Int} (h : parB g = false) : okRaise g by_ = false := by unfold okRaise; rw [h]; rfl
theorem raise_by {g : ParD} {by_ : Int} (h : inR by_ 0 40 = false) : okRaise g by_ = false := by unfold okRaise; rw [h, Bool.false_and, Bool.and_false]
theorem raise_top {g : ParD} {by_ : Int} (h : ¬ ∀ i, i < g.2.2.length → gi g.2.2 i + 2 * by_ ≤ 40) : okRaise g by_ = false := by unfold okRaise; rw [decide_eq_false h, Bool.and_false, Bool.and_false]
theorem raise_yes {g : ParD} {by_ : Int} (h : parB g = true) (h1 : inR by_ 0 40 = true) (h2 : ∀ i, i < g.2.2.length → gi g.2.2 i + 2 * by_ ≤ 40) : okRaise g by_ = true := by unfold okRaise; rw [h, h1, decide_eq_true h2]; rfl
theorem raiseG_no {g : ParD} {by_ : Int} (h : okRaise g by_ = false) : raiseG g by_ = ([], [], []) := by unfold raiseG; rw [h]; rfl
theorem raiseG_yes {g : ParD} {by_ : Int} (h : okRaise g by_ = true) : raiseG g by_ = raiseUp g by_ g.2.2.length := if_pos h
theorem OPar.setP {w : World} {lo : Nat} {s0 s1 : Value} {b c i : Nat} {g : ParD} (h : OPar w lo s0 s1 (.slice (some ⟨b, 0, none⟩) g.2.2.length c) g) (x : Int) :
    OPar (w.setCell ⟨b, i, none⟩ (.int .i64 x)) lo s0 s1 (.slice (some ⟨b, 0, none⟩) g.2.2.length c) (g.1, g.2.1, g.2.2.set i x) := by
  obtain ⟨cs, h1, h2, h3⟩ := h
  have ch := Chg.one (w := w) b i (.int .i64 x)
  have hap : ∀ u, Apart u (.slice (some ⟨b, 0, none⟩) g.2.2.length c) → ∀ z, u.ownBlock = some z → ¬ z = b := fun u hu z hz e => by
    subst e
    rcases hu with hu | hu
    · rw [hu] at hz; cases hz
    · exact hu (hz.trans rfl)
  have d0 : Apart s0 (.slice (some ⟨b, 0, none⟩) g.2.2.length c) := by
    have := h3 0 1 (by simp) (by simp) (by omega)
    simpa [gv] using this
  have dc : ∀ j, j < cs.length → Apart (gv cs j) (.slice (some ⟨b, 0, none⟩) g.2.2.length c) := fun j hj => by
    have := h3 (j + 2) 1 (by simp; omega) (by simp) (by omega)
    simpa [gv] using this
  refine ⟨cs, ⟨h1.1.chg ch (fun z hz hs => hap _ d0 z hz hs), row_chg h1.2.1 ch (fun z hz hs => own_ne h2 h1.2.1 (by decide) z (by have hs' : z = b := hs; rw [hs']; rfl) hz), fun j hj => (h1.2.2 j hj).chg ch (fun z hz hs => hap _ (dc j hj) z hz hs)⟩, ?_, h3⟩
  have := h2.set_ (i := i) rfl x
  simpa using this
theorem topUp_all {p : List Int} {n : Nat} (hp : ∀ j, j < n → 0 ≤ gi p j) : ∀ {k : Nat}, k ≤ n → (∀ j, j < k → gi p j ≤ topUp p (allL n) k) ∧ ((k = 0 ∧ topUp p (allL n) k = -1) ∨ ∃ j, j < k ∧ topUp p (allL n) k = gi p j)
  | 0, _ => ⟨by omega, .inl ⟨rfl, rfl⟩⟩
  | k + 1, hk => by
    obtain ⟨h1, h2⟩ := topUp_all hp (k := k) (by omega)
    have e : (gi (allL n) k).toNat = k := by rw [gi_all (by omega)]; omega
    rw [topUp, e]
    by_cases hc : topUp p (allL n) k < gi p k
    · rw [if_pos hc]
      refine ⟨fun j hj => ?_, .inr ⟨k, by omega, rfl⟩⟩
      by_cases ej : j = k
      · subst ej; exact Int.le_refl _
      · have := h1 j (by omega); omega
    · rw [if_neg hc]
      refine ⟨fun j hj => ?_, .inr ?_⟩
      · by_cases ej : j = k
        · subst ej; omega
        · exact h1 j (by omega)
      · rcases h2 with ⟨_, h2⟩ | ⟨j, hj, e2⟩
        · have := hp k (by omega); omega
        · exact ⟨j, by omega, e2⟩
theorem topL_all {p : List Int} {n : Nat} (hp : ∀ j, j < n → 0 ≤ gi p j) (hn : 0 < n) (c : Int) : topL p (allL n) + c ≤ 40 ↔ ∀ j, j < n → gi p j + c ≤ 40 := by
  unfold topL
  rw [allL_len]
  obtain ⟨h1, h2⟩ := topUp_all hp (Nat.le_refl n)
  constructor
  · intro h j hj
    have := h1 j hj; omega
  · intro h
    rcases h2 with ⟨h2, _⟩ | ⟨j, hj, e⟩
    · omega
    · have := h j hj; omega
def raiseL (p : List Int) (by_ : Int) (k : Nat) : List Int := fillUp (fun i => gi p i + 2 * by_) p.length (gi p) k
theorem raiseL_zero (p : List Int) (by_ : Int) : raiseL p by_ 0 = p := by
  unfold raiseL
  rw [fillUp_zero]
  exact gi_ext (fill_len _ _) fun j hj => by rw [fill_len] at hj; rw [fill_at hj]
theorem raiseL_full (p : List Int) (by_ : Int) : raiseL p by_ p.length = p.map (· + 2 * by_) := by
  unfold raiseL
  rw [fillUp_full]
  refine gi_ext (by rw [fill_len, List.length_map]) fun j hj => ?_
  rw [fill_len] at hj
  rw [fill_at hj, gi_get (xs := p.map (· + 2 * by_)) (by rw [List.length_map]; exact hj), List.getElem_map, gi_get hj]
theorem raiseL_len (p : List Int) (by_ : Int) (k : Nat) : (raiseL p by_ k).length = p.length := fillUp_len _ _ _ _
theorem raiseL_put {p : List Int} {by_ : Int} {k : Nat} (h : k < p.length) : (raiseL p by_ k).set k (gi p k + 2 * by_) = raiseL p by_ (k + 1) := fillUp_put (f := fun i => gi p i + 2 * by_) h
theorem raiseL_at {p : List Int} {by_ : Int} {k : Nat} (h : k < p.length) : gi (raiseL p by_ k) k = gi p k := by unfold raiseL; rw [fillUp_at h, if_neg (Nat.lt_irrefl _)]


set_option maxRecDepth 100000 in
set_option maxHeartbeats 1600000 in
theorem implRaisedGame (s0 s1 s2 : Value) (g : ParD) (by_ : Int) (w : World) (B : Nat) (hB : B ≤ w.heap.size) (ha : RPv w s0 s1 s2 g) :
    Calls Try.prog 12 #[.agg #[s0, s1, s2], .int .i64 by_] w fun e w' => ∃ t0 t1 t2, e = .returned (.tuple #[.agg #[t0, t1, t2], .bool (okRaise g by_)]) ∧ OPar w' B t0 t1 t2 (raiseG g by_) ∧ Below B w w' := by
  have har := ha
  obtain ⟨A0, n0, c0, A1, n1, c1, A2, n2, c2, rfl, rfl, rfl⟩ := ha.form
  have hr := ha.ri; have hrr := ha.rii; have hrp := ha.rp
  have b1 := hr.cap; have b2 := hr.top; have b3 := hrr.cap; have b4 := hrr.top; have b5 := hrp.cap; have b6 := hrp.top
  have HL := Lib.hid hr.len; have HM := Lib.hid hrr.len; have HP := Lib.hid hrp.len
  have hwL : Below w.heap.size w ((w.alloc (.cells #[.slice A0 n0 c0, .slice A1 n1 c1, .slice A2 n2 c2] 32)).alloc (.cells #[.slice none 0 0, .slice none 0 0, .slice none 0 0] 32)) := below_alloc (Nat.le_refl _) (below_alloc (Nat.le_refl _) (Below.refl _ _))
  have bxL := (Box.new w 32 #[.slice A0 n0 c0, .slice A1 n1 c1, .slice A2 n2 c2]).alloc (.cells #[.slice none 0 0, .slice none 0 0, .slice none 0 0] 32)
  have brL : Box ((w.alloc (.cells #[.slice A0 n0 c0, .slice A1 n1 c1, .slice A2 n2 c2] 32)).alloc (.cells #[.slice none 0 0, .slice none 0 0, .slice none 0 0] 32)) (w.heap.size + 1) 32 #[.slice none 0 0, .slice none 0 0, .slice none 0 0] := Box.new' (by simp)
  cases hp : parB g with
  | false =>
    have E := Lib.hid (raise_par (by_ := by_) hp)
    have E2 := Lib.hid (raiseG_no E.out)
    have HPB := Lib.hid hp
    clear hp
    have q0 : ((w.alloc (.cells #[.slice A0 n0 c0, .slice A1 n1 c1, .slice A2 n2 c2] 32)).alloc (.cells #[.slice none 0 0, .slice none 0 0, .slice none 0 0] 32)).cell? ⟨w.heap.size, 0, none⟩ = some (.slice A0 n0 c0) := bxL.cell 0; have q1 : ((w.alloc (.cells #[.slice A0 n0 c0, .slice A1 n1 c1, .slice A2 n2 c2] 32)).alloc (.cells #[.slice none 0 0, .slice none 0 0, .slice none 0 0] 32)).cell? ⟨w.heap.size, 1, none⟩ = some (.slice A1 n1 c1) := bxL.cell 1; have q2 : ((w.alloc (.cells #[.slice A0 n0 c0, .slice A1 n1 c1, .slice A2 n2 c2] 32)).alloc (.cells #[.slice none 0 0, .slice none 0 0, .slice none 0 0] 32)).cell? ⟨w.heap.size, 2, none⟩ = some (.slice A2 n2 c2) := bxL.cell 2
    go_enter Try.func12, Try.ntmps12
    go_wp2_with fail
    generalize ((w.alloc (.cells #[.slice A0 n0 c0, .slice A1 n1 c1, .slice A2 n2 c2] 32)).alloc (.cells #[.slice none 0 0, .slice none 0 0, .slice none 0 0] 32)) = W at *
    refine wp_region_held_drew (S := (fun w' => w'.cell? ⟨w.heap.size, 0, none⟩ = some (.slice A0 n0 c0) ∧ w'.cell? ⟨w.heap.size, 1, none⟩ = some (.slice A1 n1 c1) ∧ w'.cell? ⟨w.heap.size, 2, none⟩ = some (.slice A2 n2 c2))) (by kernel_rfl) (⟨q0, q1, q2⟩) (fun hHeld => ?_)
    refine takeH0 (v := ?_) (by kernel_rfl) (by kernel_rfl) (by kernel_rfl) (fun _ _ _ h => h) hHeld (by rfl) ?_ ?_
    rotate_left; · (intro w hSw; (try dsimp only at hSw); go_simp; try with_reducible rfl)
    try simp only [Act.put, List.setIfInBounds_toArray, List.set_cons_zero, List.set_cons_succ]
    refine callH1 (by kernel_rfl) (fun K hK => ?_)
    go_simp
    go_at_call 45
    refine (implParityOk _ _ _ g _ _ (Nat.le_refl _) (har.keep (keeps_below (Below.drew hwL)))).mono ?_
    rintro e w1 ⟨rfl, hb1⟩
    rw [HPB.out]
    replace hb1 := below_undrew hb1
    have hw1 := below_then hb1 hwL.size hwL
    have br1 := brL.on hb1
    have bx1 := bxL.on hb1
    have q0 : w1.cell? ⟨w.heap.size, 0, none⟩ = some (.slice A0 n0 c0) := bx1.cell 0
    have q1 : w1.cell? ⟨w.heap.size, 1, none⟩ = some (.slice A1 n1 c1) := bx1.cell 1
    have q2 : w1.cell? ⟨w.heap.size, 2, none⟩ = some (.slice A2 n2 c2) := bx1.cell 2
    go_wp2_with fail
    refine hK.out _ _ (⟨q0, q1, q2⟩) (fun hHeld => ?_)
    clear hK K
    try simp only [Act.put, List.setIfInBounds_toArray, List.set_cons_zero, List.set_cons_succ]
    refine takeH2 (v := ?_) (by kernel_rfl) (by kernel_rfl) (by kernel_rfl) (fun _ _ _ h => h) hHeld (by rfl) ?_ ?_
    rotate_left; · (intro w hSw; (try dsimp only at hSw); go_simp; try with_reducible rfl)
    try simp only [Act.put, List.setIfInBounds_toArray, List.set_cons_zero, List.set_cons_succ]
    refine takeH3 (v := ?_) (by kernel_rfl) (by kernel_rfl) (by kernel_rfl) (fun _ _ _ h => h) hHeld (by rfl) ?_ ?_
    rotate_left; · (intro w hSw; (try dsimp only at hSw); go_simp; try with_reducible rfl)
    try simp only [Act.put, List.setIfInBounds_toArray, List.set_cons_zero, List.set_cons_succ]
    refine skipH4 (by kernel_rfl) (by kernel_rfl) (by kernel_rfl) (fun _ _ _ h => h) hHeld (by rfl) ?_
    try simp only [Act.put, List.setIfInBounds_toArray, List.set_cons_zero, List.set_cons_succ]
    refine skipH5 (by kernel_rfl) (by kernel_rfl) (by kernel_rfl) (fun _ _ _ h => h) hHeld (by rfl) ?_
    try simp only [Act.put, List.setIfInBounds_toArray, List.set_cons_zero, List.set_cons_succ]
    refine takeH6 (v := ?_) (by kernel_rfl) (by kernel_rfl) (by kernel_rfl) (fun _ _ _ h => h) hHeld (by rfl) ?_ ?_
    rotate_left; · (intro w hSw; (try dsimp only at hSw); go_simp; try with_reducible rfl)
    try simp only [Act.put, List.setIfInBounds_toArray, List.set_cons_zero, List.set_cons_succ]
    refine takeH7 (v := ?_) (by kernel_rfl) (by kernel_rfl) (by kernel_rfl) (fun _ _ _ h => h) hHeld (by rfl) ?_ ?_
    rotate_left; · (intro w hSw; (try dsimp only at hSw); go_simp; try with_reducible rfl)
    try simp only [Act.put, List.setIfInBounds_toArray, List.set_cons_zero, List.set_cons_succ]
    refine skipH8 (by kernel_rfl) (by kernel_rfl) (by kernel_rfl) (fun _ _ _ h => h) hHeld (by rfl) ?_
    try simp only [Act.put, List.setIfInBounds_toArray, List.set_cons_zero, List.set_cons_succ]
    refine skipH9 (by kernel_rfl) (by kernel_rfl) (by kernel_rfl) (fun _ _ _ h => h) hHeld (by rfl) ?_
    try simp only [Act.put, List.setIfInBounds_toArray, List.set_cons_zero, List.set_cons_succ]
    refine takeH10 (v := ?_) (by kernel_rfl) (by kernel_rfl) (by kernel_rfl) (fun _ _ _ h => h) hHeld (by rfl) ?_ ?_
    rotate_left; · (intro w hSw; (try dsimp only at hSw); go_simp; try with_reducible rfl)
    try simp only [Act.put, List.setIfInBounds_toArray, List.set_cons_zero, List.set_cons_succ]
    refine takeH11 (v := ?_) (by kernel_rfl) (by kernel_rfl) (by kernel_rfl) (fun _ _ _ h => h) hHeld (by rfl) ?_ ?_
    rotate_left; · (intro w hSw; (try dsimp only at hSw); go_simp; try with_reducible rfl)
    try simp only [Act.put, List.setIfInBounds_toArray, List.set_cons_zero, List.set_cons_succ]
    refine skipH12 (by kernel_rfl) (by kernel_rfl) (by kernel_rfl) (fun _ _ _ h => h) hHeld (by rfl) ?_
    try simp only [Act.put, List.setIfInBounds_toArray, List.set_cons_zero, List.set_cons_succ]
    refine skipH13 (by kernel_rfl) (by kernel_rfl) (by kernel_rfl) (fun _ _ _ h => h) hHeld (by rfl) ?_
    try simp only [Act.put, List.setIfInBounds_toArray, List.set_cons_zero, List.set_cons_succ]
    refine skipH14 (by kernel_rfl) (by kernel_rfl) (by kernel_rfl) (fun _ _ _ h => h) hHeld (by rfl) ?_
    try simp only [Act.put, List.setIfInBounds_toArray, List.set_cons_zero, List.set_cons_succ]
    refine skipH15 (by kernel_rfl) (by kernel_rfl) (by kernel_rfl) (fun _ _ _ h => h) hHeld (by rfl) ?_
    try simp only [Act.put, List.setIfInBounds_toArray, List.set_cons_zero, List.set_cons_succ]
    refine skipH16 (by kernel_rfl) (by kernel_rfl) (by kernel_rfl) (fun _ _ _ h => h) hHeld (by rfl) ?_
    try simp only [Act.put, List.setIfInBounds_toArray, List.set_cons_zero, List.set_cons_succ]
    refine skipH17 (by kernel_rfl) (by kernel_rfl) (by kernel_rfl) (fun _ _ _ h => h) hHeld (by rfl) ?_
    try simp only [Act.put, List.setIfInBounds_toArray, List.set_cons_zero, List.set_cons_succ]
    refine skipH18 (by kernel_rfl) (by kernel_rfl) (by kernel_rfl) (fun _ _ _ h => h) hHeld (by rfl) ?_
    try simp only [Act.put, List.setIfInBounds_toArray, List.set_cons_zero, List.set_cons_succ]
    refine skipH19 (by kernel_rfl) (by kernel_rfl) (by kernel_rfl) (fun _ _ _ h => h) hHeld (by rfl) ?_
    try simp only [Act.put, List.setIfInBounds_toArray, List.set_cons_zero, List.set_cons_succ]
    refine skipH20 (by kernel_rfl) (by kernel_rfl) (by kernel_rfl) (fun _ _ _ h => h) hHeld (by rfl) ?_
    try simp only [Act.put, List.setIfInBounds_toArray, List.set_cons_zero, List.set_cons_succ]
    refine takeH21 (v := ?_) (by kernel_rfl) (by kernel_rfl) (by kernel_rfl) (fun _ _ _ h => h) hHeld (by rfl) ?_ ?_
    rotate_left; · (intro w hSw; (try dsimp only at hSw); go_simp; try with_reducible rfl)
    try simp only [Act.put, List.setIfInBounds_toArray, List.set_cons_zero, List.set_cons_succ]
    refine wpAnyH_done (by kernel_rfl) ?_ _
    all_goals
      have brX := br1
      clear q0 q1 q2
      have z0 : w1.cell? ⟨w.heap.size + 1, 0, none⟩ = some (.slice none 0 0) := brX.cell 0; have f0 := brX.hot 0; have z1 : w1.cell? ⟨w.heap.size + 1, 1, none⟩ = some (.slice none 0 0) := brX.cell 1; have f1 := brX.hot 1; have z2 : w1.cell? ⟨w.heap.size + 1, 2, none⟩ = some (.slice none 0 0) := brX.cell 2; have f2 := brX.hot 2
      go_wp2
      obtain ⟨hwZ, bxZ⟩ := zero3 hw1 (by omega) brX (.slice none 0 0) (.slice none 0 0) (.slice none 0 0)
      have R0 := bxZ.cell 0; have R1 := bxZ.cell 1; have R2 := bxZ.cell 2
      simp only [List.getElem?_toArray, List.getElem?_cons_zero, List.getElem?_cons_succ] at R0 R1 R2
      exact bodyPost_ret (v := .tuple #[.agg #[.slice none 0 0, .slice none 0 0, .slice none 0 0], .bool false]) (by simp [results, Try.results12, go_sem, R0, R1, R2]) rfl ⟨_, _, _, by rw [E.out], by rw [E2.out]; exact OPar.nil _ _, hwZ.mono hB⟩
  | true =>
    have HPB := Lib.hid hp
    have hf := finePar_of hp
    have hn0 := hf.1.2.1; have hn1 := hf.1.2.2.1; have hn2 := hf.2.1; have hm0 := hf.1.1
    rw [HL.out] at hn0 hn1 hn2 hm0
    rw [HM.out] at hn1
    rw [HP.out] at hn2
    have HF := Lib.hid hf
    have H10 := Lib.hid hn1; have H20 := Lib.hid hn2
    clear hp hf hn1 hn2
    by_cases y1 : by_ < 0
    · have E := Lib.hid (raise_by (g := g) (by_ := by_) (decide_eq_false (by omega)))
      have E2 := Lib.hid (raiseG_no E.out)
      have d1 : decide (by_ < 0) = true := decide_eq_true y1
      have q0 : ((w.alloc (.cells #[.slice A0 n0 c0, .slice A1 n1 c1, .slice A2 n2 c2] 32)).alloc (.cells #[.slice none 0 0, .slice none 0 0, .slice none 0 0] 32)).cell? ⟨w.heap.size, 0, none⟩ = some (.slice A0 n0 c0) := bxL.cell 0; have q1 : ((w.alloc (.cells #[.slice A0 n0 c0, .slice A1 n1 c1, .slice A2 n2 c2] 32)).alloc (.cells #[.slice none 0 0, .slice none 0 0, .slice none 0 0] 32)).cell? ⟨w.heap.size, 1, none⟩ = some (.slice A1 n1 c1) := bxL.cell 1; have q2 : ((w.alloc (.cells #[.slice A0 n0 c0, .slice A1 n1 c1, .slice A2 n2 c2] 32)).alloc (.cells #[.slice none 0 0, .slice none 0 0, .slice none 0 0] 32)).cell? ⟨w.heap.size, 2, none⟩ = some (.slice A2 n2 c2) := bxL.cell 2
      go_enter Try.func12, Try.ntmps12
      go_wp2_with fail
      generalize ((w.alloc (.cells #[.slice A0 n0 c0, .slice A1 n1 c1, .slice A2 n2 c2] 32)).alloc (.cells #[.slice none 0 0, .slice none 0 0, .slice none 0 0] 32)) = W at *
      refine wp_region_held_drew (S := (fun w' => w'.cell? ⟨w.heap.size, 0, none⟩ = some (.slice A0 n0 c0) ∧ w'.cell? ⟨w.heap.size, 1, none⟩ = some (.slice A1 n1 c1) ∧ w'.cell? ⟨w.heap.size, 2, none⟩ = some (.slice A2 n2 c2))) (by kernel_rfl) (⟨q0, q1, q2⟩) (fun hHeld => ?_)
      refine takeH0 (v := ?_) (by kernel_rfl) (by kernel_rfl) (by kernel_rfl) (fun _ _ _ h => h) hHeld (by rfl) ?_ ?_
      rotate_left; · (intro w hSw; (try dsimp only at hSw); go_simp; try with_reducible rfl)
      try simp only [Act.put, List.setIfInBounds_toArray, List.set_cons_zero, List.set_cons_succ]
      refine callH1 (by kernel_rfl) (fun K hK => ?_)
      go_simp
      go_at_call 45
      refine (implParityOk _ _ _ g _ _ (Nat.le_refl _) (har.keep (keeps_below (Below.drew hwL)))).mono ?_
      rintro e w1 ⟨rfl, hb1⟩
      rw [HPB.out]
      replace hb1 := below_undrew hb1
      have hw1 := below_then hb1 hwL.size hwL
      have br1 := brL.on hb1
      have bx1 := bxL.on hb1
      have q0 : w1.cell? ⟨w.heap.size, 0, none⟩ = some (.slice A0 n0 c0) := bx1.cell 0
      have q1 : w1.cell? ⟨w.heap.size, 1, none⟩ = some (.slice A1 n1 c1) := bx1.cell 1
      have q2 : w1.cell? ⟨w.heap.size, 2, none⟩ = some (.slice A2 n2 c2) := bx1.cell 2
      go_wp2_with fail
      refine hK.out _ _ (⟨q0, q1, q2⟩) (fun hHeld => ?_)
      clear hK K
      try simp only [Act.put, List.setIfInBounds_toArray, List.set_cons_zero, List.set_cons_succ]
      refine takeH2 (v := ?_) (by kernel_rfl) (by kernel_rfl) (by kernel_rfl) (fun _ _ _ h => h) hHeld (by rfl) ?_ ?_
      rotate_left; · (intro w hSw; (try dsimp only at hSw); go_simp; try with_reducible rfl)
      try simp only [Act.put, List.setIfInBounds_toArray, List.set_cons_zero, List.set_cons_succ]
      refine takeH3 (v := ?_) (by kernel_rfl) (by kernel_rfl) (by kernel_rfl) (fun _ _ _ h => h) hHeld (by rfl) ?_ ?_
      rotate_left; · (intro w hSw; (try dsimp only at hSw); go_simp; try with_reducible rfl)
      try simp only [Act.put, List.setIfInBounds_toArray, List.set_cons_zero, List.set_cons_succ]
      refine takeH4 (v := ?_) (by kernel_rfl) (by kernel_rfl) (by kernel_rfl) (fun _ _ _ h => h) hHeld (by rfl) ?_ ?_
      rotate_left; · (intro w hSw; (try dsimp only at hSw); go_simp; try with_reducible rfl)
      try simp only [Act.put, List.setIfInBounds_toArray, List.set_cons_zero, List.set_cons_succ]
      refine takeH5 (v := ?_) (by kernel_rfl) (by kernel_rfl) (by kernel_rfl) (fun _ _ _ h => h) hHeld (by rfl) ?_ ?_
      rotate_left; · (intro w hSw; (try dsimp only at hSw); go_simp; try with_reducible rfl)
      try simp only [Act.put, List.setIfInBounds_toArray, List.set_cons_zero, List.set_cons_succ]
      refine takeH6 (v := ?_) (by kernel_rfl) (by kernel_rfl) (by kernel_rfl) (fun _ _ _ h => h) hHeld (by rfl) ?_ ?_
      rotate_left; · (intro w hSw; (try dsimp only at hSw); go_simp; try with_reducible rfl)
      try simp only [Act.put, List.setIfInBounds_toArray, List.set_cons_zero, List.set_cons_succ]
      refine takeH7 (v := ?_) (by kernel_rfl) (by kernel_rfl) (by kernel_rfl) (fun _ _ _ h => h) hHeld (by rfl) ?_ ?_
      rotate_left; · (intro w hSw; (try dsimp only at hSw); go_simp; try with_reducible rfl)
      try simp only [Act.put, List.setIfInBounds_toArray, List.set_cons_zero, List.set_cons_succ]
      refine skipH8 (by kernel_rfl) (by kernel_rfl) (by kernel_rfl) (fun _ _ _ h => h) hHeld (by rfl) ?_
      try simp only [Act.put, List.setIfInBounds_toArray, List.set_cons_zero, List.set_cons_succ]
      refine skipH9 (by kernel_rfl) (by kernel_rfl) (by kernel_rfl) (fun _ _ _ h => h) hHeld (by rfl) ?_
      try simp only [Act.put, List.setIfInBounds_toArray, List.set_cons_zero, List.set_cons_succ]
      refine takeH10 (v := ?_) (by kernel_rfl) (by kernel_rfl) (by kernel_rfl) (fun _ _ _ h => h) hHeld (by rfl) ?_ ?_
      rotate_left; · (intro w hSw; (try dsimp only at hSw); go_simp; try with_reducible rfl)
      try simp only [Act.put, List.setIfInBounds_toArray, List.set_cons_zero, List.set_cons_succ]
      refine takeH11 (v := ?_) (by kernel_rfl) (by kernel_rfl) (by kernel_rfl) (fun _ _ _ h => h) hHeld (by rfl) ?_ ?_
      rotate_left; · (intro w hSw; (try dsimp only at hSw); go_simp; try with_reducible rfl)
      try simp only [Act.put, List.setIfInBounds_toArray, List.set_cons_zero, List.set_cons_succ]
      refine skipH12 (by kernel_rfl) (by kernel_rfl) (by kernel_rfl) (fun _ _ _ h => h) hHeld (by rfl) ?_
      try simp only [Act.put, List.setIfInBounds_toArray, List.set_cons_zero, List.set_cons_succ]
      refine skipH13 (by kernel_rfl) (by kernel_rfl) (by kernel_rfl) (fun _ _ _ h => h) hHeld (by rfl) ?_
      try simp only [Act.put, List.setIfInBounds_toArray, List.set_cons_zero, List.set_cons_succ]
      refine skipH14 (by kernel_rfl) (by kernel_rfl) (by kernel_rfl) (fun _ _ _ h => h) hHeld (by rfl) ?_
      try simp only [Act.put, List.setIfInBounds_toArray, List.set_cons_zero, List.set_cons_succ]
      refine skipH15 (by kernel_rfl) (by kernel_rfl) (by kernel_rfl) (fun _ _ _ h => h) hHeld (by rfl) ?_
      try simp only [Act.put, List.setIfInBounds_toArray, List.set_cons_zero, List.set_cons_succ]
      refine skipH16 (by kernel_rfl) (by kernel_rfl) (by kernel_rfl) (fun _ _ _ h => h) hHeld (by rfl) ?_
      try simp only [Act.put, List.setIfInBounds_toArray, List.set_cons_zero, List.set_cons_succ]
      refine skipH17 (by kernel_rfl) (by kernel_rfl) (by kernel_rfl) (fun _ _ _ h => h) hHeld (by rfl) ?_
      try simp only [Act.put, List.setIfInBounds_toArray, List.set_cons_zero, List.set_cons_succ]
      refine skipH18 (by kernel_rfl) (by kernel_rfl) (by kernel_rfl) (fun _ _ _ h => h) hHeld (by rfl) ?_
      try simp only [Act.put, List.setIfInBounds_toArray, List.set_cons_zero, List.set_cons_succ]
      refine skipH19 (by kernel_rfl) (by kernel_rfl) (by kernel_rfl) (fun _ _ _ h => h) hHeld (by rfl) ?_
      try simp only [Act.put, List.setIfInBounds_toArray, List.set_cons_zero, List.set_cons_succ]
      refine skipH20 (by kernel_rfl) (by kernel_rfl) (by kernel_rfl) (fun _ _ _ h => h) hHeld (by rfl) ?_
      try simp only [Act.put, List.setIfInBounds_toArray, List.set_cons_zero, List.set_cons_succ]
      refine takeH21 (v := ?_) (by kernel_rfl) (by kernel_rfl) (by kernel_rfl) (fun _ _ _ h => h) hHeld (by rfl) ?_ ?_
      rotate_left; · (intro w hSw; (try dsimp only at hSw); go_simp; try with_reducible rfl)
      try simp only [Act.put, List.setIfInBounds_toArray, List.set_cons_zero, List.set_cons_succ]
      refine wpAnyH_done (by kernel_rfl) ?_ _
      all_goals
        have brX := br1
        clear q0 q1 q2
        have z0 : w1.cell? ⟨w.heap.size + 1, 0, none⟩ = some (.slice none 0 0) := brX.cell 0; have f0 := brX.hot 0; have z1 : w1.cell? ⟨w.heap.size + 1, 1, none⟩ = some (.slice none 0 0) := brX.cell 1; have f1 := brX.hot 1; have z2 : w1.cell? ⟨w.heap.size + 1, 2, none⟩ = some (.slice none 0 0) := brX.cell 2; have f2 := brX.hot 2
        go_wp2
        obtain ⟨hwZ, bxZ⟩ := zero3 hw1 (by omega) brX (.slice none 0 0) (.slice none 0 0) (.slice none 0 0)
        have R0 := bxZ.cell 0; have R1 := bxZ.cell 1; have R2 := bxZ.cell 2
        simp only [List.getElem?_toArray, List.getElem?_cons_zero, List.getElem?_cons_succ] at R0 R1 R2
        exact bodyPost_ret (v := .tuple #[.agg #[.slice none 0 0, .slice none 0 0, .slice none 0 0], .bool false]) (by simp [results, Try.results12, go_sem, R0, R1, R2]) rfl ⟨_, _, _, by rw [E.out], by rw [E2.out]; exact OPar.nil _ _, hwZ.mono hB⟩
    · by_cases y2 : 40 < by_
      · have E := Lib.hid (raise_by (g := g) (by_ := by_) (decide_eq_false (by omega)))
        have E2 := Lib.hid (raiseG_no E.out)
        have d1 : decide (by_ < 0) = false := decide_eq_false y1
        have d2 : decide (40 < by_) = true := decide_eq_true y2
        have q0 : ((w.alloc (.cells #[.slice A0 n0 c0, .slice A1 n1 c1, .slice A2 n2 c2] 32)).alloc (.cells #[.slice none 0 0, .slice none 0 0, .slice none 0 0] 32)).cell? ⟨w.heap.size, 0, none⟩ = some (.slice A0 n0 c0) := bxL.cell 0; have q1 : ((w.alloc (.cells #[.slice A0 n0 c0, .slice A1 n1 c1, .slice A2 n2 c2] 32)).alloc (.cells #[.slice none 0 0, .slice none 0 0, .slice none 0 0] 32)).cell? ⟨w.heap.size, 1, none⟩ = some (.slice A1 n1 c1) := bxL.cell 1; have q2 : ((w.alloc (.cells #[.slice A0 n0 c0, .slice A1 n1 c1, .slice A2 n2 c2] 32)).alloc (.cells #[.slice none 0 0, .slice none 0 0, .slice none 0 0] 32)).cell? ⟨w.heap.size, 2, none⟩ = some (.slice A2 n2 c2) := bxL.cell 2
        go_enter Try.func12, Try.ntmps12
        go_wp2_with fail
        generalize ((w.alloc (.cells #[.slice A0 n0 c0, .slice A1 n1 c1, .slice A2 n2 c2] 32)).alloc (.cells #[.slice none 0 0, .slice none 0 0, .slice none 0 0] 32)) = W at *
        refine wp_region_held_drew (S := (fun w' => w'.cell? ⟨w.heap.size, 0, none⟩ = some (.slice A0 n0 c0) ∧ w'.cell? ⟨w.heap.size, 1, none⟩ = some (.slice A1 n1 c1) ∧ w'.cell? ⟨w.heap.size, 2, none⟩ = some (.slice A2 n2 c2))) (by kernel_rfl) (⟨q0, q1, q2⟩) (fun hHeld => ?_)
        refine takeH0 (v := ?_) (by kernel_rfl) (by kernel_rfl) (by kernel_rfl) (fun _ _ _ h => h) hHeld (by rfl) ?_ ?_
        rotate_left; · (intro w hSw; (try dsimp only at hSw); go_simp; try with_reducible rfl)
        try simp only [Act.put, List.setIfInBounds_toArray, List.set_cons_zero, List.set_cons_succ]
        refine callH1 (by kernel_rfl) (fun K hK => ?_)
        go_simp
        go_at_call 45
        refine (implParityOk _ _ _ g _ _ (Nat.le_refl _) (har.keep (keeps_below (Below.drew hwL)))).mono ?_
        rintro e w1 ⟨rfl, hb1⟩
        rw [HPB.out]
        replace hb1 := below_undrew hb1
        have hw1 := below_then hb1 hwL.size hwL
        have br1 := brL.on hb1
        have bx1 := bxL.on hb1
        have q0 : w1.cell? ⟨w.heap.size, 0, none⟩ = some (.slice A0 n0 c0) := bx1.cell 0
        have q1 : w1.cell? ⟨w.heap.size, 1, none⟩ = some (.slice A1 n1 c1) := bx1.cell 1
        have q2 : w1.cell? ⟨w.heap.size, 2, none⟩ = some (.slice A2 n2 c2) := bx1.cell 2
        go_wp2_with fail
        refine hK.out _ _ (⟨q0, q1, q2⟩) (fun hHeld => ?_)
        clear hK K
        try simp only [Act.put, List.setIfInBounds_toArray, List.set_cons_zero, List.set_cons_succ]
        refine takeH2 (v := ?_) (by kernel_rfl) (by kernel_rfl) (by kernel_rfl) (fun _ _ _ h => h) hHeld (by rfl) ?_ ?_
        rotate_left; · (intro w hSw; (try dsimp only at hSw); go_simp; try with_reducible rfl)
        try simp only [Act.put, List.setIfInBounds_toArray, List.set_cons_zero, List.set_cons_succ]
        refine takeH3 (v := ?_) (by kernel_rfl) (by kernel_rfl) (by kernel_rfl) (fun _ _ _ h => h) hHeld (by rfl) ?_ ?_
        rotate_left; · (intro w hSw; (try dsimp only at hSw); go_simp; try with_reducible rfl)
        try simp only [Act.put, List.setIfInBounds_toArray, List.set_cons_zero, List.set_cons_succ]
        refine takeH4 (v := ?_) (by kernel_rfl) (by kernel_rfl) (by kernel_rfl) (fun _ _ _ h => h) hHeld (by rfl) ?_ ?_
        rotate_left; · (intro w hSw; (try dsimp only at hSw); go_simp; try with_reducible rfl)
        try simp only [Act.put, List.setIfInBounds_toArray, List.set_cons_zero, List.set_cons_succ]
        refine takeH5 (v := ?_) (by kernel_rfl) (by kernel_rfl) (by kernel_rfl) (fun _ _ _ h => h) hHeld (by rfl) ?_ ?_
        rotate_left; · (intro w hSw; (try dsimp only at hSw); go_simp; try with_reducible rfl)
        try simp only [Act.put, List.setIfInBounds_toArray, List.set_cons_zero, List.set_cons_succ]
        refine takeH6 (v := ?_) (by kernel_rfl) (by kernel_rfl) (by kernel_rfl) (fun _ _ _ h => h) hHeld (by rfl) ?_ ?_
        rotate_left; · (intro w hSw; (try dsimp only at hSw); go_simp; try with_reducible rfl)
        try simp only [Act.put, List.setIfInBounds_toArray, List.set_cons_zero, List.set_cons_succ]
        refine takeH7 (v := ?_) (by kernel_rfl) (by kernel_rfl) (by kernel_rfl) (fun _ _ _ h => h) hHeld (by rfl) ?_ ?_
        rotate_left; · (intro w hSw; (try dsimp only at hSw); go_simp; try with_reducible rfl)
        try simp only [Act.put, List.setIfInBounds_toArray, List.set_cons_zero, List.set_cons_succ]
        refine takeH8 (v := ?_) (by kernel_rfl) (by kernel_rfl) (by kernel_rfl) (fun _ _ _ h => h) hHeld (by rfl) ?_ ?_
        rotate_left; · (intro w hSw; (try dsimp only at hSw); go_simp; try with_reducible rfl)
        try simp only [Act.put, List.setIfInBounds_toArray, List.set_cons_zero, List.set_cons_succ]
        refine takeH9 (v := ?_) (by kernel_rfl) (by kernel_rfl) (by kernel_rfl) (fun _ _ _ h => h) hHeld (by rfl) ?_ ?_
        rotate_left; · (intro w hSw; (try dsimp only at hSw); go_simp; try with_reducible rfl)
        try simp only [Act.put, List.setIfInBounds_toArray, List.set_cons_zero, List.set_cons_succ]
        refine takeH10 (v := ?_) (by kernel_rfl) (by kernel_rfl) (by kernel_rfl) (fun _ _ _ h => h) hHeld (by rfl) ?_ ?_
        rotate_left; · (intro w hSw; (try dsimp only at hSw); go_simp; try with_reducible rfl)
        try simp only [Act.put, List.setIfInBounds_toArray, List.set_cons_zero, List.set_cons_succ]
        refine takeH11 (v := ?_) (by kernel_rfl) (by kernel_rfl) (by kernel_rfl) (fun _ _ _ h => h) hHeld (by rfl) ?_ ?_
        rotate_left; · (intro w hSw; (try dsimp only at hSw); go_simp; try with_reducible rfl)
        try simp only [Act.put, List.setIfInBounds_toArray, List.set_cons_zero, List.set_cons_succ]
        refine skipH12 (by kernel_rfl) (by kernel_rfl) (by kernel_rfl) (fun _ _ _ h => h) hHeld (by rfl) ?_
        try simp only [Act.put, List.setIfInBounds_toArray, List.set_cons_zero, List.set_cons_succ]
        refine skipH13 (by kernel_rfl) (by kernel_rfl) (by kernel_rfl) (fun _ _ _ h => h) hHeld (by rfl) ?_
        try simp only [Act.put, List.setIfInBounds_toArray, List.set_cons_zero, List.set_cons_succ]
        refine skipH14 (by kernel_rfl) (by kernel_rfl) (by kernel_rfl) (fun _ _ _ h => h) hHeld (by rfl) ?_
        try simp only [Act.put, List.setIfInBounds_toArray, List.set_cons_zero, List.set_cons_succ]
        refine skipH15 (by kernel_rfl) (by kernel_rfl) (by kernel_rfl) (fun _ _ _ h => h) hHeld (by rfl) ?_
        try simp only [Act.put, List.setIfInBounds_toArray, List.set_cons_zero, List.set_cons_succ]
        refine skipH16 (by kernel_rfl) (by kernel_rfl) (by kernel_rfl) (fun _ _ _ h => h) hHeld (by rfl) ?_
        try simp only [Act.put, List.setIfInBounds_toArray, List.set_cons_zero, List.set_cons_succ]
        refine skipH17 (by kernel_rfl) (by kernel_rfl) (by kernel_rfl) (fun _ _ _ h => h) hHeld (by rfl) ?_
        try simp only [Act.put, List.setIfInBounds_toArray, List.set_cons_zero, List.set_cons_succ]
        refine skipH18 (by kernel_rfl) (by kernel_rfl) (by kernel_rfl) (fun _ _ _ h => h) hHeld (by rfl) ?_
        try simp only [Act.put, List.setIfInBounds_toArray, List.set_cons_zero, List.set_cons_succ]
        refine skipH19 (by kernel_rfl) (by kernel_rfl) (by kernel_rfl) (fun _ _ _ h => h) hHeld (by rfl) ?_
        try simp only [Act.put, List.setIfInBounds_toArray, List.set_cons_zero, List.set_cons_succ]
        refine skipH20 (by kernel_rfl) (by kernel_rfl) (by kernel_rfl) (fun _ _ _ h => h) hHeld (by rfl) ?_
        try simp only [Act.put, List.setIfInBounds_toArray, List.set_cons_zero, List.set_cons_succ]
        refine takeH21 (v := ?_) (by kernel_rfl) (by kernel_rfl) (by kernel_rfl) (fun _ _ _ h => h) hHeld (by rfl) ?_ ?_
        rotate_left; · (intro w hSw; (try dsimp only at hSw); go_simp; try with_reducible rfl)
        try simp only [Act.put, List.setIfInBounds_toArray, List.set_cons_zero, List.set_cons_succ]
        refine wpAnyH_done (by kernel_rfl) ?_ _
        all_goals
          have brX := br1
          clear q0 q1 q2
          have z0 : w1.cell? ⟨w.heap.size + 1, 0, none⟩ = some (.slice none 0 0) := brX.cell 0; have f0 := brX.hot 0; have z1 : w1.cell? ⟨w.heap.size + 1, 1, none⟩ = some (.slice none 0 0) := brX.cell 1; have f1 := brX.hot 1; have z2 : w1.cell? ⟨w.heap.size + 1, 2, none⟩ = some (.slice none 0 0) := brX.cell 2; have f2 := brX.hot 2
          go_wp2
          obtain ⟨hwZ, bxZ⟩ := zero3 hw1 (by omega) brX (.slice none 0 0) (.slice none 0 0) (.slice none 0 0)
          have R0 := bxZ.cell 0; have R1 := bxZ.cell 1; have R2 := bxZ.cell 2
          simp only [List.getElem?_toArray, List.getElem?_cons_zero, List.getElem?_cons_succ] at R0 R1 R2
          exact bodyPost_ret (v := .tuple #[.agg #[.slice none 0 0, .slice none 0 0, .slice none 0 0], .bool false]) (by simp [results, Try.results12, go_sem, R0, R1, R2]) rfl ⟨_, _, _, by rw [E.out], by rw [E2.out]; exact OPar.nil _ _, hwZ.mono hB⟩
      · have d1 : decide (by_ < 0) = false := decide_eq_false y1
        have d2 : decide (40 < by_) = false := decide_eq_false y2
        have y3 : 0 ≤ by_ := by omega
        have y4 : by_ ≤ 40 := by omega
        have HSA := Lib.hid (show setB (allL n0) g.2.2.length = true by rw [HP.out, H20.out]; exact allL_set n0)
        have hT := topUp_range (n := 0) HF.out.2.2 HSA.out (k := (allL n0).length) (Nat.le_refl _)
        have HT := Lib.hid (topL_all (p := g.2.2) (n := n0) (fun j hj => (HF.out.2.2 j (by rw [HP.out, H20.out]; exact hj)).1) hm0 (2 * by_))
        have t1 : -1 ≤ topL g.2.2 (allL n0) := hT.1
        have t2 : topL g.2.2 (allL n0) ≤ 40 := hT.2
        have e1 : IntKind.i64.wrap (2 * by_) = 2 * by_ := IntWalk.i64_in _ (by omega)
        have e2 : IntKind.i64.wrap (topL g.2.2 (allL n0) + 2 * by_) = topL g.2.2 (allL n0) + 2 * by_ := IntWalk.i64_in _ (by omega)
        clear hT
        by_cases hgt : topL g.2.2 (allL n0) + 2 * by_ ≤ 40
        · have HALL := Lib.hid (HT.out.1 hgt)
          have d3 : decide (40 < topL g.2.2 (allL n0) + 2 * by_) = false := decide_eq_false (by omega)
          have E := Lib.hid (raise_yes HPB.out (decide_eq_true ⟨y3, y4⟩ : inR by_ 0 40 = true) (by rw [HP.out, H20.out]; exact HALL.out))
          have E2 := Lib.hid (raiseG_yes E.out)
          clear hgt
          have q0 : ((w.alloc (.cells #[.slice A0 n0 c0, .slice A1 n1 c1, .slice A2 n2 c2] 32)).alloc (.cells #[.slice none 0 0, .slice none 0 0, .slice none 0 0] 32)).cell? ⟨w.heap.size, 0, none⟩ = some (.slice A0 n0 c0) := bxL.cell 0; have q1 : ((w.alloc (.cells #[.slice A0 n0 c0, .slice A1 n1 c1, .slice A2 n2 c2] 32)).alloc (.cells #[.slice none 0 0, .slice none 0 0, .slice none 0 0] 32)).cell? ⟨w.heap.size, 1, none⟩ = some (.slice A1 n1 c1) := bxL.cell 1; have q2 : ((w.alloc (.cells #[.slice A0 n0 c0, .slice A1 n1 c1, .slice A2 n2 c2] 32)).alloc (.cells #[.slice none 0 0, .slice none 0 0, .slice none 0 0] 32)).cell? ⟨w.heap.size, 2, none⟩ = some (.slice A2 n2 c2) := bxL.cell 2
          go_enter Try.func12, Try.ntmps12
          go_wp2_with fail
          generalize ((w.alloc (.cells #[.slice A0 n0 c0, .slice A1 n1 c1, .slice A2 n2 c2] 32)).alloc (.cells #[.slice none 0 0, .slice none 0 0, .slice none 0 0] 32)) = W at *
          refine wp_region_held_drew (S := (fun w' => w'.cell? ⟨w.heap.size, 0, none⟩ = some (.slice A0 n0 c0) ∧ w'.cell? ⟨w.heap.size, 1, none⟩ = some (.slice A1 n1 c1) ∧ w'.cell? ⟨w.heap.size, 2, none⟩ = some (.slice A2 n2 c2))) (by kernel_rfl) (⟨q0, q1, q2⟩) (fun hHeld => ?_)
          refine takeH0 (v := ?_) (by kernel_rfl) (by kernel_rfl) (by kernel_rfl) (fun _ _ _ h => h) hHeld (by rfl) ?_ ?_
          rotate_left; · (intro w hSw; (try dsimp only at hSw); go_simp; try with_reducible rfl)
          try simp only [Act.put, List.setIfInBounds_toArray, List.set_cons_zero, List.set_cons_succ]
          refine callH1 (by kernel_rfl) (fun K hK => ?_)
          go_simp
          go_at_call 45
          refine (implParityOk _ _ _ g _ _ (Nat.le_refl _) (har.keep (keeps_below (Below.drew hwL)))).mono ?_
          rintro e w1 ⟨rfl, hb1⟩
          rw [HPB.out]
          replace hb1 := below_undrew hb1
          have hw1 := below_then hb1 hwL.size hwL
          have br1 := brL.on hb1
          have bx1 := bxL.on hb1
          have q0 : w1.cell? ⟨w.heap.size, 0, none⟩ = some (.slice A0 n0 c0) := bx1.cell 0
          have q1 : w1.cell? ⟨w.heap.size, 1, none⟩ = some (.slice A1 n1 c1) := bx1.cell 1
          have q2 : w1.cell? ⟨w.heap.size, 2, none⟩ = some (.slice A2 n2 c2) := bx1.cell 2
          go_wp2_with fail
          refine hK.out _ _ (⟨q0, q1, q2⟩) (fun hHeld => ?_)
          clear hK K
          try simp only [Act.put, List.setIfInBounds_toArray, List.set_cons_zero, List.set_cons_succ]
          refine takeH2 (v := ?_) (by kernel_rfl) (by kernel_rfl) (by kernel_rfl) (fun _ _ _ h => h) hHeld (by rfl) ?_ ?_
          rotate_left; · (intro w hSw; (try dsimp only at hSw); go_simp; try with_reducible rfl)
          try simp only [Act.put, List.setIfInBounds_toArray, List.set_cons_zero, List.set_cons_succ]
          refine takeH3 (v := ?_) (by kernel_rfl) (by kernel_rfl) (by kernel_rfl) (fun _ _ _ h => h) hHeld (by rfl) ?_ ?_
          rotate_left; · (intro w hSw; (try dsimp only at hSw); go_simp; try with_reducible rfl)
          try simp only [Act.put, List.setIfInBounds_toArray, List.set_cons_zero, List.set_cons_succ]
          refine takeH4 (v := ?_) (by kernel_rfl) (by kernel_rfl) (by kernel_rfl) (fun _ _ _ h => h) hHeld (by rfl) ?_ ?_
          rotate_left; · (intro w hSw; (try dsimp only at hSw); go_simp; try with_reducible rfl)
          try simp only [Act.put, List.setIfInBounds_toArray, List.set_cons_zero, List.set_cons_succ]
          refine takeH5 (v := ?_) (by kernel_rfl) (by kernel_rfl) (by kernel_rfl) (fun _ _ _ h => h) hHeld (by rfl) ?_ ?_
          rotate_left; · (intro w hSw; (try dsimp only at hSw); go_simp; try with_reducible rfl)
          try simp only [Act.put, List.setIfInBounds_toArray, List.set_cons_zero, List.set_cons_succ]
          refine takeH6 (v := ?_) (by kernel_rfl) (by kernel_rfl) (by kernel_rfl) (fun _ _ _ h => h) hHeld (by rfl) ?_ ?_
          rotate_left; · (intro w hSw; (try dsimp only at hSw); go_simp; try with_reducible rfl)
          try simp only [Act.put, List.setIfInBounds_toArray, List.set_cons_zero, List.set_cons_succ]
          refine takeH7 (v := ?_) (by kernel_rfl) (by kernel_rfl) (by kernel_rfl) (fun _ _ _ h => h) hHeld (by rfl) ?_ ?_
          rotate_left; · (intro w hSw; (try dsimp only at hSw); go_simp; try with_reducible rfl)
          try simp only [Act.put, List.setIfInBounds_toArray, List.set_cons_zero, List.set_cons_succ]
          refine takeH8 (v := ?_) (by kernel_rfl) (by kernel_rfl) (by kernel_rfl) (fun _ _ _ h => h) hHeld (by rfl) ?_ ?_
          rotate_left; · (intro w hSw; (try dsimp only at hSw); go_simp; try with_reducible rfl)
          try simp only [Act.put, List.setIfInBounds_toArray, List.set_cons_zero, List.set_cons_succ]
          refine takeH9 (v := ?_) (by kernel_rfl) (by kernel_rfl) (by kernel_rfl) (fun _ _ _ h => h) hHeld (by rfl) ?_ ?_
          rotate_left; · (intro w hSw; (try dsimp only at hSw); go_simp; try with_reducible rfl)
          try simp only [Act.put, List.setIfInBounds_toArray, List.set_cons_zero, List.set_cons_succ]
          refine takeH10 (v := ?_) (by kernel_rfl) (by kernel_rfl) (by kernel_rfl) (fun _ _ _ h => h) hHeld (by rfl) ?_ ?_
          rotate_left; · (intro w hSw; (try dsimp only at hSw); go_simp; try with_reducible rfl)
          try simp only [Act.put, List.setIfInBounds_toArray, List.set_cons_zero, List.set_cons_succ]
          refine takeH11 (v := ?_) (by kernel_rfl) (by kernel_rfl) (by kernel_rfl) (fun _ _ _ h => h) hHeld (by rfl) ?_ ?_
          rotate_left; · (intro w hSw; (try dsimp only at hSw); go_simp; try with_reducible rfl)
          try simp only [Act.put, List.setIfInBounds_toArray, List.set_cons_zero, List.set_cons_succ]
          refine takeH12 (v := ?_) (by kernel_rfl) (by kernel_rfl) (by kernel_rfl) (fun _ _ _ h => h) hHeld (by rfl) ?_ ?_
          rotate_left; · (intro w hSw; (try dsimp only at hSw); go_simp; try with_reducible rfl)
          try simp only [Act.put, List.setIfInBounds_toArray, List.set_cons_zero, List.set_cons_succ]
          refine takeH13 (v := ?_) (by kernel_rfl) (by kernel_rfl) (by kernel_rfl) (fun _ _ _ h => h) hHeld (by rfl) ?_ ?_
          rotate_left; · (intro w hSw; (try dsimp only at hSw); go_simp; try with_reducible rfl)
          try simp only [Act.put, List.setIfInBounds_toArray, List.set_cons_zero, List.set_cons_succ]
          refine takeH14 (v := ?_) (by kernel_rfl) (by kernel_rfl) (by kernel_rfl) (fun _ _ _ h => h) hHeld (by rfl) ?_ ?_
          rotate_left; · (intro w hSw; (try dsimp only at hSw); go_simp; try with_reducible rfl)
          try simp only [Act.put, List.setIfInBounds_toArray, List.set_cons_zero, List.set_cons_succ]
          refine takeH17 (v := ?_) (by kernel_rfl) (by kernel_rfl) (by kernel_rfl) (fun _ _ _ h => h) hHeld (by rfl) ?_ ?_
          rotate_left; · (intro w hSw; (try dsimp only at hSw); go_simp; try with_reducible rfl)
          try simp only [Act.put, List.setIfInBounds_toArray, List.set_cons_zero, List.set_cons_succ]
          refine takeH18 (v := ?_) (by kernel_rfl) (by kernel_rfl) (by kernel_rfl) (fun _ _ _ h => h) hHeld (by rfl) ?_ ?_
          rotate_left; · (intro w hSw; (try dsimp only at hSw); go_simp; try with_reducible rfl)
          try simp only [Act.put, List.setIfInBounds_toArray, List.set_cons_zero, List.set_cons_succ]
          refine callH15 (by kernel_rfl) (fun K hK => ?_)
          go_simp
          go_at_call 51
          refine (allOf A0 A1 n0 c0 n1 c1 _ _ (Nat.le_refl _) hn0).mono ?_
          rintro e w2 ⟨v2, rfl, ho2, hb2⟩
          obtain ⟨Av2, cv2, rfl⟩ := ho2.form
          have hw2 := below_then hb2 hw1.size hw1
          have br2 := br1.on hb2
          have bx2 := bx1.on hb2
          have q0 : w2.cell? ⟨w.heap.size, 0, none⟩ = some (.slice A0 n0 c0) := bx2.cell 0
          have q1 : w2.cell? ⟨w.heap.size, 1, none⟩ = some (.slice A1 n1 c1) := bx2.cell 1
          have q2 : w2.cell? ⟨w.heap.size, 2, none⟩ = some (.slice A2 n2 c2) := bx2.cell 2
          go_wp2_with fail
          refine hK.out _ _ (⟨q0, q1, q2⟩) (fun hHeld => ?_)
          clear hK K
          try simp only [Act.put, List.setIfInBounds_toArray, List.set_cons_zero, List.set_cons_succ]
          refine callH16 (by kernel_rfl) (fun K hK => ?_)
          go_simp
          go_at_call 50
          refine (topIn _ _ _ g _ _ _ (allL n0) _ _ (Nat.le_refl _) (har.keep (keeps_below hw2)) ho2.reads HF.out HSA.out).mono ?_
          rintro e w3 ⟨rfl, hb3⟩
          have hw3 := below_then hb3 hw2.size hw2
          have br3 := br2.on hb3
          have bx3 := bx2.on hb3
          have q0 : w3.cell? ⟨w.heap.size, 0, none⟩ = some (.slice A0 n0 c0) := bx3.cell 0
          have q1 : w3.cell? ⟨w.heap.size, 1, none⟩ = some (.slice A1 n1 c1) := bx3.cell 1
          have q2 : w3.cell? ⟨w.heap.size, 2, none⟩ = some (.slice A2 n2 c2) := bx3.cell 2
          go_wp2_with fail
          refine hK.out _ _ (⟨q0, q1, q2⟩) (fun hHeld => ?_)
          clear hK K
          try simp only [Act.put, List.setIfInBounds_toArray, List.set_cons_zero, List.set_cons_succ]
          refine takeH19 (v := ?_) (by kernel_rfl) (by kernel_rfl) (by kernel_rfl) (fun _ _ _ h => h) hHeld (by rfl) ?_ ?_
          rotate_left; · (intro w hSw; (try dsimp only at hSw); go_simp; try with_reducible rfl)
          try simp only [Act.put, List.setIfInBounds_toArray, List.set_cons_zero, List.set_cons_succ]
          refine takeH20 (v := ?_) (by kernel_rfl) (by kernel_rfl) (by kernel_rfl) (fun _ _ _ h => h) hHeld (by rfl) ?_ ?_
          rotate_left; · (intro w hSw; (try dsimp only at hSw); go_simp; try with_reducible rfl)
          try simp only [Act.put, List.setIfInBounds_toArray, List.set_cons_zero, List.set_cons_succ]
          refine takeH21 (v := ?_) (by kernel_rfl) (by kernel_rfl) (by kernel_rfl) (fun _ _ _ h => h) hHeld (by rfl) ?_ ?_
          rotate_left; · (intro w hSw; (try dsimp only at hSw); go_simp; try with_reducible rfl)
          try simp only [Act.put, List.setIfInBounds_toArray, List.set_cons_zero, List.set_cons_succ]
          refine wpAnyH_done (by kernel_rfl) ?_ _
          all_goals
            have brX := br3; have bxX := bx3
            clear q0 q1 q2
            have q0 : w3.cell? ⟨w.heap.size, 0, none⟩ = some (.slice A0 n0 c0) := bxX.cell 0; have q1 : w3.cell? ⟨w.heap.size, 1, none⟩ = some (.slice A1 n1 c1) := bxX.cell 1; have q2 : w3.cell? ⟨w.heap.size, 2, none⟩ = some (.slice A2 n2 c2) := bxX.cell 2
            go_wp2_with fail
            refine (copyParity _ _ _ g _ _ (Nat.le_refl _) (har.keep (keeps_below hw3)) HF.out).mono ?_; rintro e w4 ⟨t0, t1', t2', rfl, hoc, hb4⟩
            obtain ⟨T0, d0, T1, d1', T2, d2', rfl, rfl, rfl⟩ := hoc.form
            obtain ⟨gp, rfl⟩ : ∃ gp, T2 = some ⟨gp, 0, none⟩ := by
              obtain ⟨cs, _, h2, _⟩ := hoc
              obtain ⟨x, c, e⟩ := h2.form2 (by rw [HP.out]; have := H20.out; omega)
              injection e with e1 _ _
              exact ⟨x, e1⟩
            have hw4 := below_then hb4 hw3.size hw3
            replace brX := brX.on hb4
            have hlP : ∀ z, (Value.slice (some ⟨gp, 0, none⟩) g.2.2.length d2').ownBlock = some z → w3.heap.size ≤ z ∧ z < w4.heap.size := fun z hz => by
              obtain ⟨cs, _, h2, _⟩ := hoc
              exact h2.lt z hz
            have hgp : w3.heap.size ≤ gp ∧ gp < w4.heap.size := hlP gp rfl
            have hg1 := hgp.1; have hg2 := hgp.2
            have hz3 := hw3.size; have hz34 := hb4.size; have hbr3 := br3.lt
            have bo := Box.new w4 32 #[.slice T0 g.1.length d0, .slice T1 g.2.1.length d1', .slice (some ⟨gp, 0, none⟩) g.2.2.length d2']
            replace brX := brX.alloc (.cells #[.slice T0 g.1.length d0, .slice T1 g.2.1.length d1', .slice (some ⟨gp, 0, none⟩) g.2.2.length d2'] 32)
            have hw5 := below_alloc (o := .cells #[.slice T0 g.1.length d0, .slice T1 g.2.1.length d1', .slice (some ⟨gp, 0, none⟩) g.2.2.length d2'] 32) (Nat.le_refl _) hw4
            replace hoc := hoc.below (below_alloc (o := .cells #[.slice T0 g.1.length d0, .slice T1 g.2.1.length d1', .slice (some ⟨gp, 0, none⟩) g.2.2.length d2'] 32) (Nat.le_refl _) (Below.refl _ _))
            have HR0 := Lib.hid (raiseL_zero g.2.2 by_)
            have hpl : g.2.2.length ≤ 256 := by rw [HP.out]; have := H20.out; omega
            clear q0 q1 q2 hlP hgp d1 d2 d3 e2 bx1 bx2 bx3 br1 br2 br3 bxX bxL brL hb1 hb2 hb3 hb4 ho2
            go_wp2
            generalize hLN : g.2.2.length = ln at *
            have HLN := Lib.hid hLN
            clear hLN
            go_loopw [36] (fun i wr => ∃ k : Nat, k ≤ ln ∧ i = .int .i64 k ∧ OPar wr w3.heap.size (.slice T0 g.1.length d0) (.slice T1 g.2.1.length d1') (.slice (some ⟨gp, 0, none⟩) ln d2') (g.1, g.2.1, raiseL g.2.2 by_ k) ∧ Box wr w4.heap.size 32 #[.slice T0 g.1.length d0, .slice T1 g.2.1.length d1', .slice (some ⟨gp, 0, none⟩) ln d2'] ∧ Box wr (w.heap.size + 1) 32 #[.slice none 0 0, .slice none 0 0, .slice none 0 0] ∧ Below w.heap.size w wr) (fun i _ => ln - (intOf i).toNat)
            case atStart => exact ⟨0, Nat.zero_le _, rfl, by rw [HR0.out]; exact hoc, bo, brX, hw5⟩
            case round =>
              clear hoc bo brX hw5 hw4
              obtain ⟨k, hk, rfl, hop, hbo, hbr, hwr⟩ := hrel
              have c0' : wr.cell? ⟨w4.heap.size, 0, none⟩ = some (.slice T0 g.1.length d0) := hbo.cell 0
              have c1' : wr.cell? ⟨w4.heap.size, 1, none⟩ = some (.slice T1 g.2.1.length d1') := hbo.cell 1
              have c2' : wr.cell? ⟨w4.heap.size, 2, none⟩ = some (.slice (some ⟨gp, 0, none⟩) ln d2') := hbo.cell 2
              by_cases hlt : k < ln
              · have hcell : wr.cell? ⟨gp, k, none⟩ = some (.int .i64 (gi g.2.2 k)) ∧ wr.frozen? ⟨gp, k, none⟩ = false := by
                  obtain ⟨cs, _, h2, _⟩ := hop
                  have h3 := OI.cellAt (i := k) (xs := raiseL g.2.2 by_ k) h2 (by rw [raiseL_len, HLN.out]; exact hlt)
                  rw [raiseL_at (by rw [HLN.out]; exact hlt)] at h3
                  exact ⟨h3, OI.hot (xs := raiseL g.2.2 by_ k) h2 (by rw [raiseL_len, HLN.out])⟩
                obtain ⟨hc1, hc2⟩ := hcell
                have hpr := HF.out.2.2 k (by rw [HLN.out]; exact hlt)
                have hp1 := hpr.1; have hp2 := hpr.2
                have hki : (k : Int) < (ln : Int) := by omega
                have hk0 : (0 : Int) ≤ (k : Int) := by omega
                have HN := Lib.hid (raiseL_put (by_ := by_) (show k < g.2.2.length by rw [HLN.out]; exact hlt))
                have hset := Lib.hid (show OPar (wr.setCell ⟨gp, k, none⟩ (.int .i64 (gi g.2.2 k + 2 * by_))) w3.heap.size (.slice T0 g.1.length d0) (.slice T1 g.2.1.length d1') (.slice (some ⟨gp, 0, none⟩) ln d2') (g.1, g.2.1, raiseL g.2.2 by_ (k + 1)) by
                  have hl : (raiseL g.2.2 by_ k).length = ln := by rw [raiseL_len, HLN.out]
                  have h5 := OPar.setP (i := k) (g := (g.1, g.2.1, raiseL g.2.2 by_ k)) (by rw [hl]; exact hop) (gi g.2.2 k + 2 * by_)
                  rw [HN.out, hl] at h5
                  exact h5)
                clear hpr
                go_wp2
                exact ⟨⟨k + 1, by omega, by go_num, hset.out, hbo.far (by show w4.heap.size ≠ gp; omega) _, hbr.far (by show w.heap.size + 1 ≠ gp; omega) _, below_set (by show w.heap.size ≤ gp; omega) hwr⟩, by simp [intOf]; omega⟩
              · obtain rfl : k = ln := by omega
                have z0 : wr.cell? ⟨w.heap.size + 1, 0, none⟩ = some (.slice none 0 0) := hbr.cell 0
                have z1 : wr.cell? ⟨w.heap.size + 1, 1, none⟩ = some (.slice none 0 0) := hbr.cell 1
                have z2 : wr.cell? ⟨w.heap.size + 1, 2, none⟩ = some (.slice none 0 0) := hbr.cell 2
                have f0 := hbr.hot 0; have f1 := hbr.hot 1; have f2 := hbr.hot 2
                obtain ⟨hwZ, bxZ⟩ := zero3 hwr (by omega) hbr (.slice T0 g.1.length d0) (.slice T1 g.2.1.length d1') (.slice (some ⟨gp, 0, none⟩) k d2')
                have R0 := bxZ.cell 0; have R1 := bxZ.cell 1; have R2 := bxZ.cell 2
                simp only [List.getElem?_toArray, List.getElem?_cons_zero, List.getElem?_cons_succ] at R0 R1 R2
                have hF := hop.chg (Chg.set3 wr (w.heap.size + 1) (.slice T0 g.1.length d0) (.slice T1 g.2.1.length d1') (.slice (some ⟨gp, 0, none⟩) k d2')) (fun b hb => by have hb' : b = w.heap.size + 1 := hb; omega)
                have E3 := Lib.hid (show raiseG g by_ = (g.1, g.2.1, raiseL g.2.2 by_ k) by
                  have h1 := HF.out.1.2.2.1; have h2 := HF.out.2.1
                  rw [E2.out, ← HLN.out, raiseL_full]
                  unfold raiseUp
                  rw [List.take_of_length_le (by omega), List.take_of_length_le (by omega), List.take_of_length_le (Nat.le_refl _)])
                go_wp2
                exact bodyPost_ret (v := .tuple #[.agg #[.slice T0 g.1.length d0, .slice T1 g.2.1.length d1', .slice (some ⟨gp, 0, none⟩) k d2'], .bool true]) (by simp [results, Try.results12, go_sem, R0, R1, R2]) rfl ⟨_, _, _, by rw [E.out], by rw [E3.out]; exact hF.more (by omega), hwZ.mono hB⟩
        · have E := Lib.hid (raise_top (g := g) (by_ := by_) (fun h => hgt (HT.out.2 (by rw [HP.out, H20.out] at h; exact h))))
          have E2 := Lib.hid (raiseG_no E.out)
          have d3 : decide (40 < topL g.2.2 (allL n0) + 2 * by_) = true := decide_eq_true (by omega)
          clear hgt
          have q0 : ((w.alloc (.cells #[.slice A0 n0 c0, .slice A1 n1 c1, .slice A2 n2 c2] 32)).alloc (.cells #[.slice none 0 0, .slice none 0 0, .slice none 0 0] 32)).cell? ⟨w.heap.size, 0, none⟩ = some (.slice A0 n0 c0) := bxL.cell 0; have q1 : ((w.alloc (.cells #[.slice A0 n0 c0, .slice A1 n1 c1, .slice A2 n2 c2] 32)).alloc (.cells #[.slice none 0 0, .slice none 0 0, .slice none 0 0] 32)).cell? ⟨w.heap.size, 1, none⟩ = some (.slice A1 n1 c1) := bxL.cell 1; have q2 : ((w.alloc (.cells #[.slice A0 n0 c0, .slice A1 n1 c1, .slice A2 n2 c2] 32)).alloc (.cells #[.slice none 0 0, .slice none 0 0, .slice none 0 0] 32)).cell? ⟨w.heap.size, 2, none⟩ = some (.slice A2 n2 c2) := bxL.cell 2
          go_enter Try.func12, Try.ntmps12
          go_wp2_with fail
          generalize ((w.alloc (.cells #[.slice A0 n0 c0, .slice A1 n1 c1, .slice A2 n2 c2] 32)).alloc (.cells #[.slice none 0 0, .slice none 0 0, .slice none 0 0] 32)) = W at *
          refine wp_region_held_drew (S := (fun w' => w'.cell? ⟨w.heap.size, 0, none⟩ = some (.slice A0 n0 c0) ∧ w'.cell? ⟨w.heap.size, 1, none⟩ = some (.slice A1 n1 c1) ∧ w'.cell? ⟨w.heap.size, 2, none⟩ = some (.slice A2 n2 c2))) (by kernel_rfl) (⟨q0, q1, q2⟩) (fun hHeld => ?_)
          refine takeH0 (v := ?_) (by kernel_rfl) (by kernel_rfl) (by kernel_rfl) (fun _ _ _ h => h) hHeld (by rfl) ?_ ?_
          rotate_left; · (intro w hSw; (try dsimp only at hSw); go_simp; try with_reducible rfl)
          try simp only [Act.put, List.setIfInBounds_toArray, List.set_cons_zero, List.set_cons_succ]
          refine callH1 (by kernel_rfl) (fun K hK => ?_)
          go_simp
          go_at_call 45
          refine (implParityOk _ _ _ g _ _ (Nat.le_refl _) (har.keep (keeps_below (Below.drew hwL)))).mono ?_
          rintro e w1 ⟨rfl, hb1⟩
          rw [HPB.out]
          replace hb1 := below_undrew hb1
          have hw1 := below_then hb1 hwL.size hwL
          have br1 := brL.on hb1
          have bx1 := bxL.on hb1
          have q0 : w1.cell? ⟨w.heap.size, 0, none⟩ = some (.slice A0 n0 c0) := bx1.cell 0
          have q1 : w1.cell? ⟨w.heap.size, 1, none⟩ = some (.slice A1 n1 c1) := bx1.cell 1
          have q2 : w1.cell? ⟨w.heap.size, 2, none⟩ = some (.slice A2 n2 c2) := bx1.cell 2
          go_wp2_with fail
          refine hK.out _ _ (⟨q0, q1, q2⟩) (fun hHeld => ?_)
          clear hK K
          try simp only [Act.put, List.setIfInBounds_toArray, List.set_cons_zero, List.set_cons_succ]
          refine takeH2 (v := ?_) (by kernel_rfl) (by kernel_rfl) (by kernel_rfl) (fun _ _ _ h => h) hHeld (by rfl) ?_ ?_
          rotate_left; · (intro w hSw; (try dsimp only at hSw); go_simp; try with_reducible rfl)
          try simp only [Act.put, List.setIfInBounds_toArray, List.set_cons_zero, List.set_cons_succ]
          refine takeH3 (v := ?_) (by kernel_rfl) (by kernel_rfl) (by kernel_rfl) (fun _ _ _ h => h) hHeld (by rfl) ?_ ?_
          rotate_left; · (intro w hSw; (try dsimp only at hSw); go_simp; try with_reducible rfl)
          try simp only [Act.put, List.setIfInBounds_toArray, List.set_cons_zero, List.set_cons_succ]
          refine takeH4 (v := ?_) (by kernel_rfl) (by kernel_rfl) (by kernel_rfl) (fun _ _ _ h => h) hHeld (by rfl) ?_ ?_
          rotate_left; · (intro w hSw; (try dsimp only at hSw); go_simp; try with_reducible rfl)
          try simp only [Act.put, List.setIfInBounds_toArray, List.set_cons_zero, List.set_cons_succ]
          refine takeH5 (v := ?_) (by kernel_rfl) (by kernel_rfl) (by kernel_rfl) (fun _ _ _ h => h) hHeld (by rfl) ?_ ?_
          rotate_left; · (intro w hSw; (try dsimp only at hSw); go_simp; try with_reducible rfl)
          try simp only [Act.put, List.setIfInBounds_toArray, List.set_cons_zero, List.set_cons_succ]
          refine takeH6 (v := ?_) (by kernel_rfl) (by kernel_rfl) (by kernel_rfl) (fun _ _ _ h => h) hHeld (by rfl) ?_ ?_
          rotate_left; · (intro w hSw; (try dsimp only at hSw); go_simp; try with_reducible rfl)
          try simp only [Act.put, List.setIfInBounds_toArray, List.set_cons_zero, List.set_cons_succ]
          refine takeH7 (v := ?_) (by kernel_rfl) (by kernel_rfl) (by kernel_rfl) (fun _ _ _ h => h) hHeld (by rfl) ?_ ?_
          rotate_left; · (intro w hSw; (try dsimp only at hSw); go_simp; try with_reducible rfl)
          try simp only [Act.put, List.setIfInBounds_toArray, List.set_cons_zero, List.set_cons_succ]
          refine takeH8 (v := ?_) (by kernel_rfl) (by kernel_rfl) (by kernel_rfl) (fun _ _ _ h => h) hHeld (by rfl) ?_ ?_
          rotate_left; · (intro w hSw; (try dsimp only at hSw); go_simp; try with_reducible rfl)
          try simp only [Act.put, List.setIfInBounds_toArray, List.set_cons_zero, List.set_cons_succ]
          refine takeH9 (v := ?_) (by kernel_rfl) (by kernel_rfl) (by kernel_rfl) (fun _ _ _ h => h) hHeld (by rfl) ?_ ?_
          rotate_left; · (intro w hSw; (try dsimp only at hSw); go_simp; try with_reducible rfl)
          try simp only [Act.put, List.setIfInBounds_toArray, List.set_cons_zero, List.set_cons_succ]
          refine takeH10 (v := ?_) (by kernel_rfl) (by kernel_rfl) (by kernel_rfl) (fun _ _ _ h => h) hHeld (by rfl) ?_ ?_
          rotate_left; · (intro w hSw; (try dsimp only at hSw); go_simp; try with_reducible rfl)
          try simp only [Act.put, List.setIfInBounds_toArray, List.set_cons_zero, List.set_cons_succ]
          refine takeH11 (v := ?_) (by kernel_rfl) (by kernel_rfl) (by kernel_rfl) (fun _ _ _ h => h) hHeld (by rfl) ?_ ?_
          rotate_left; · (intro w hSw; (try dsimp only at hSw); go_simp; try with_reducible rfl)
          try simp only [Act.put, List.setIfInBounds_toArray, List.set_cons_zero, List.set_cons_succ]
          refine takeH12 (v := ?_) (by kernel_rfl) (by kernel_rfl) (by kernel_rfl) (fun _ _ _ h => h) hHeld (by rfl) ?_ ?_
          rotate_left; · (intro w hSw; (try dsimp only at hSw); go_simp; try with_reducible rfl)
          try simp only [Act.put, List.setIfInBounds_toArray, List.set_cons_zero, List.set_cons_succ]
          refine takeH13 (v := ?_) (by kernel_rfl) (by kernel_rfl) (by kernel_rfl) (fun _ _ _ h => h) hHeld (by rfl) ?_ ?_
          rotate_left; · (intro w hSw; (try dsimp only at hSw); go_simp; try with_reducible rfl)
          try simp only [Act.put, List.setIfInBounds_toArray, List.set_cons_zero, List.set_cons_succ]
          refine takeH14 (v := ?_) (by kernel_rfl) (by kernel_rfl) (by kernel_rfl) (fun _ _ _ h => h) hHeld (by rfl) ?_ ?_
          rotate_left; · (intro w hSw; (try dsimp only at hSw); go_simp; try with_reducible rfl)
          try simp only [Act.put, List.setIfInBounds_toArray, List.set_cons_zero, List.set_cons_succ]
          refine takeH17 (v := ?_) (by kernel_rfl) (by kernel_rfl) (by kernel_rfl) (fun _ _ _ h => h) hHeld (by rfl) ?_ ?_
          rotate_left; · (intro w hSw; (try dsimp only at hSw); go_simp; try with_reducible rfl)
          try simp only [Act.put, List.setIfInBounds_toArray, List.set_cons_zero, List.set_cons_succ]
          refine takeH18 (v := ?_) (by kernel_rfl) (by kernel_rfl) (by kernel_rfl) (fun _ _ _ h => h) hHeld (by rfl) ?_ ?_
          rotate_left; · (intro w hSw; (try dsimp only at hSw); go_simp; try with_reducible rfl)
          try simp only [Act.put, List.setIfInBounds_toArray, List.set_cons_zero, List.set_cons_succ]
          refine callH15 (by kernel_rfl) (fun K hK => ?_)
          go_simp
          go_at_call 51
          refine (allOf A0 A1 n0 c0 n1 c1 _ _ (Nat.le_refl _) hn0).mono ?_
          rintro e w2 ⟨v2, rfl, ho2, hb2⟩
          obtain ⟨Av2, cv2, rfl⟩ := ho2.form
          have hw2 := below_then hb2 hw1.size hw1
          have br2 := br1.on hb2
          have bx2 := bx1.on hb2
          have q0 : w2.cell? ⟨w.heap.size, 0, none⟩ = some (.slice A0 n0 c0) := bx2.cell 0
          have q1 : w2.cell? ⟨w.heap.size, 1, none⟩ = some (.slice A1 n1 c1) := bx2.cell 1
          have q2 : w2.cell? ⟨w.heap.size, 2, none⟩ = some (.slice A2 n2 c2) := bx2.cell 2
          go_wp2_with fail
          refine hK.out _ _ (⟨q0, q1, q2⟩) (fun hHeld => ?_)
          clear hK K
          try simp only [Act.put, List.setIfInBounds_toArray, List.set_cons_zero, List.set_cons_succ]
          refine callH16 (by kernel_rfl) (fun K hK => ?_)
          go_simp
          go_at_call 50
          refine (topIn _ _ _ g _ _ _ (allL n0) _ _ (Nat.le_refl _) (har.keep (keeps_below hw2)) ho2.reads HF.out HSA.out).mono ?_
          rintro e w3 ⟨rfl, hb3⟩
          have hw3 := below_then hb3 hw2.size hw2
          have br3 := br2.on hb3
          have bx3 := bx2.on hb3
          have q0 : w3.cell? ⟨w.heap.size, 0, none⟩ = some (.slice A0 n0 c0) := bx3.cell 0
          have q1 : w3.cell? ⟨w.heap.size, 1, none⟩ = some (.slice A1 n1 c1) := bx3.cell 1
          have q2 : w3.cell? ⟨w.heap.size, 2, none⟩ = some (.slice A2 n2 c2) := bx3.cell 2
          go_wp2_with fail
          refine hK.out _ _ (⟨q0, q1, q2⟩) (fun hHeld => ?_)
          clear hK K
          try simp only [Act.put, List.setIfInBounds_toArray, List.set_cons_zero, List.set_cons_succ]
          refine takeH19 (v := ?_) (by kernel_rfl) (by kernel_rfl) (by kernel_rfl) (fun _ _ _ h => h) hHeld (by rfl) ?_ ?_
          rotate_left; · (intro w hSw; (try dsimp only at hSw); go_simp; try with_reducible rfl)
          try simp only [Act.put, List.setIfInBounds_toArray, List.set_cons_zero, List.set_cons_succ]
          refine takeH20 (v := ?_) (by kernel_rfl) (by kernel_rfl) (by kernel_rfl) (fun _ _ _ h => h) hHeld (by rfl) ?_ ?_
          rotate_left; · (intro w hSw; (try dsimp only at hSw); go_simp; try with_reducible rfl)
          try simp only [Act.put, List.setIfInBounds_toArray, List.set_cons_zero, List.set_cons_succ]
          refine takeH21 (v := ?_) (by kernel_rfl) (by kernel_rfl) (by kernel_rfl) (fun _ _ _ h => h) hHeld (by rfl) ?_ ?_
          rotate_left; · (intro w hSw; (try dsimp only at hSw); go_simp; try with_reducible rfl)
          try simp only [Act.put, List.setIfInBounds_toArray, List.set_cons_zero, List.set_cons_succ]
          refine wpAnyH_done (by kernel_rfl) ?_ _
          all_goals
            have brX := br3
            clear q0 q1 q2
            have z0 : w3.cell? ⟨w.heap.size + 1, 0, none⟩ = some (.slice none 0 0) := brX.cell 0; have f0 := brX.hot 0; have z1 : w3.cell? ⟨w.heap.size + 1, 1, none⟩ = some (.slice none 0 0) := brX.cell 1; have f1 := brX.hot 1; have z2 : w3.cell? ⟨w.heap.size + 1, 2, none⟩ = some (.slice none 0 0) := brX.cell 2; have f2 := brX.hot 2
            go_wp2
            obtain ⟨hwZ, bxZ⟩ := zero3 hw3 (by omega) brX (.slice none 0 0) (.slice none 0 0) (.slice none 0 0)
            have R0 := bxZ.cell 0; have R1 := bxZ.cell 1; have R2 := bxZ.cell 2
            simp only [List.getElem?_toArray, List.getElem?_cons_zero, List.getElem?_cons_succ] at R0 R1 R2
            exact bodyPost_ret (v := .tuple #[.agg #[.slice none 0 0, .slice none 0 0, .slice none 0 0], .bool false]) (by simp [results, Try.results12, go_sem, R0, R1, R2]) rfl ⟨_, _, _, by rw [E.out], by rw [E2.out]; exact OPar.nil _ _, hwZ.mono hB⟩

end Go.Proofs.Ytngadlpfheakiaa
