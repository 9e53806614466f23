/- Texts that the proof reaches: SolD. -/
import Derived.Test.YtblmcmccdeelgaaBn5
namespace Go.Proofs.Ytblmcmccdeelgaa

def totS (g : S7) (N : Nat) (ins : List Bool) : Prop := ∀ v, InS N ins v → ∃ u, ed g v u = true ∧ InS N ins u
/-- out are those of ins that player 0 wins, if each of ins has a way within -/
def WinRes (g : S7) (N : Nat) (ins out : List Bool) : Prop :=
  out.length = N ∧ (∀ v, gb out v = true → gb ins v = true) ∧ (totS g N ins → (∃ s, WinsIn (pgOf g) (InS N ins) 0 (fun v => gb out v = true) s) ∧ ∃ s, WinsIn (pgOf g) (InS N ins) 1 (fun v => InS N ins v ∧ gb out v = false) s)

theorem wins_empty {G : PG} {I X : Nat → Prop} {i : Int} (h : ∀ v, ¬ X v) : ∃ s, WinsIn G I i X s :=
  ⟨fun _ => 0, fun v hv => absurd hv (h v), fun v hv => absurd hv (h v), fun v _ hv => absurd hv (h v), fun _ _ hf => absurd (hf 0).1 (h _)⟩
theorem wins_congr {G : PG} {I J X Y : Nat → Prop} {i : Int} (h : ∃ s, WinsIn G I i X s) (h1 : ∀ v, X v ↔ Y v) (h2 : ∀ v, I v ↔ J v) : ∃ s, WinsIn G J i Y s := by
  have e1 : X = Y := funext fun v => propext (h1 v)
  have e2 : I = J := funext fun v => propext (h2 v)
  subst e1; subst e2
  exact h
theorem attr_congr {G : PG} {I T T' A : Nat → Prop} {i : Int} {rk : Nat → Nat} (h : AttrIn G I i T A rk) (ht : ∀ v, I v → (T v ↔ T' v)) : AttrIn G I i T' A rk :=
  ⟨h.sub, fun v hv hT => h.goal v hv ((ht v hv).2 hT), fun v hv hT => h.mine v hv (fun hT2 => hT ((ht v (h.sub v hv)).1 hT2)), fun v u hv hT => h.yours v u hv (fun hT2 => hT ((ht v (h.sub v hv)).1 hT2)), h.outm, h.outy⟩
/-- what an attractor leaves has a way within still -/
theorem tot_rest {g : S7} {N : Nat} {ins : List Bool} {i : Int} {T A : Nat → Prop} {rk : Nat → Nat} (ht : totS g N ins) (hA : AttrIn (pgOf g) (InS N ins) i T A rk) :
    ∀ v, InS N ins v → ¬ A v → ∃ u, ed g v u = true ∧ InS N ins u ∧ ¬ A u := by
  intro v hv hn
  by_cases ho : gi g.o v = i
  · obtain ⟨u, he, hu⟩ := ht v hv
    exact ⟨u, he, hu, hA.outm v u hv hn ho he hu⟩
  · obtain ⟨u, he, hu, hn2⟩ := hA.outy v hv hn ho (ht v hv)
    exact ⟨u, he, hu, hn2⟩
def lessM (a b : List Bool) (N : Nat) : List Bool := fillB (fun v => gb a v && !gb b v) N N
theorem lessM_iff {a b : List Bool} {N v : Nat} : gb (lessM a b N) v = true ↔ v < N ∧ gb a v = true ∧ gb b v = false := by
  unfold lessM
  rw [fillB_iff]; simp
theorem ins_less {N : Nat} {ins away : List Bool} {v : Nat} : InS N (lessM ins away N) v ↔ InS N ins v ∧ ¬ gb away v = true := by
  unfold InS
  rw [lessM_iff]
  constructor
  · rintro ⟨a, _, b, c⟩
    exact ⟨⟨a, b⟩, by rw [c]; decide⟩
  · rintro ⟨⟨a, b⟩, c⟩
    exact ⟨a, a, b, by simpa using c⟩
theorem cn_lt {N : Nat} {P Q : Nat → Bool} (h : ∀ x, x < N → Q x = true → P x = true) {u : Nat} (hu : u < N) (h1 : P u = true) (h2 : Q u = false) : cn N Q < cn N P := by
  induction N with
  | zero => omega
  | succ N ih =>
    rw [cn_succ, cn_succ]
    have hle : ∀ M, M ≤ N → cn M Q ≤ cn M P := by
      intro M
      induction M with
      | zero => intro _; exact Nat.le_refl _
      | succ M ihM =>
        intro hM
        have := ihM (by omega)
        rw [cn_succ, cn_succ]
        by_cases e : Q M = true
        · rw [if_pos e, if_pos (h M (by omega) e)]; omega
        · rw [if_neg e]; split <;> omega
    by_cases e : u = N
    · subst e
      have := hle u (Nat.le_refl _)
      rw [if_pos h1, if_neg (by rw [h2]; decide)]; omega
    · have := ih (fun x hx => h x (by omega)) (by omega)
      by_cases e : Q N = true
      · rw [if_pos e, if_pos (h N (by omega) e)]; omega
      · rw [if_neg e]; split <;> omega
theorem less_cn {N : Nat} {ins away : List Bool} {u : Nat} (hu : u < N) (h1 : gb ins u = true) (h2 : gb away u = true) : cn N (gb (lessM ins away N)) < cn N (gb ins) := by
  refine cn_lt (fun x _ hx => (lessM_iff.1 hx).2.1) hu h1 ?_
  cases e : gb (lessM ins away N) u with
  | false => rfl
  | true => have := (lessM_iff.1 e).2.2; rw [h2] at this; cases this

/-! ### the greatest priority of a part -/
def mxI (a b : Int) : Int := if b < a then a else b
def tpUp (p : List Int) (ins : List Bool) : Nat → Int
  | 0 => -1
  | k + 1 => if gb ins k = true then mxI (tpUp p ins k) (gi p k) else tpUp p ins k
theorem tpUp_bd {p : List Int} {ins : List Bool} {N : Nat} (hp : ∀ v, v < N → 0 ≤ gi p v ∧ gi p v ≤ 40) : ∀ k, k ≤ N → -1 ≤ tpUp p ins k ∧ tpUp p ins k ≤ 40
  | 0, _ => by simp [tpUp]
  | k + 1, h => by
    have ih := tpUp_bd (ins := ins) hp k (by omega)
    have := hp k (by omega)
    unfold tpUp mxI
    split
    · split <;> omega
    · exact ih
theorem tpUp_ge {p : List Int} {ins : List Bool} : ∀ {k v : Nat}, v < k → gb ins v = true → gi p v ≤ tpUp p ins k
  | 0, _, h, _ => absurd h (by omega)
  | k + 1, v, h, hv => by
    unfold tpUp mxI
    by_cases e : v = k
    · subst e
      rw [if_pos hv]
      split <;> omega
    · have := tpUp_ge (p := p) (k := k) (v := v) (by omega) hv
      split
      · split <;> omega
      · exact this
theorem tpUp_hit {p : List Int} {ins : List Bool} : ∀ {k : Nat}, 0 ≤ tpUp p ins k → ∃ v, v < k ∧ gb ins v = true ∧ gi p v = tpUp p ins k
  | 0, h => by simp [tpUp] at h
  | k + 1, h => by
    unfold tpUp at h ⊢
    by_cases hk : gb ins k = true
    · rw [if_pos hk] at h ⊢
      unfold mxI at h ⊢
      by_cases e : gi p k < tpUp p ins k
      · rw [if_pos e] at h ⊢
        obtain ⟨v, a, b, c⟩ := tpUp_hit h
        exact ⟨v, by omega, b, c⟩
      · rw [if_neg e] at h ⊢
        exact ⟨k, by omega, hk, rfl⟩
    · rw [if_neg hk] at h ⊢
      obtain ⟨v, a, b, c⟩ := tpUp_hit h
      exact ⟨v, by omega, b, c⟩

/-! ### the ends of the recursion -/
section
variable {g : S7} {N : Nat} {ins : List Bool}
theorem win_none (hp : ∀ v, v < N → 0 ≤ gi g.p v ∧ gi g.p v ≤ 40) (ht : tpUp g.p ins N < 0) : WinRes g N ins (List.replicate N false) := by
  have h0 : ∀ v, ¬ InS N ins v := fun v hv => by have := tpUp_ge (p := g.p) hv.1 hv.2; have := hp v hv.1; omega
  have hr : ∀ v, gb (List.replicate N false) v = true → False := fun v hv => by rw [gb_rep] at hv; cases hv
  exact ⟨List.length_replicate, fun v hv => (hr v hv).elim, fun _ => ⟨wins_empty hr, wins_empty fun v hv => h0 v hv.1⟩⟩
def goalM (g : S7) (ins : List Bool) (top : Int) (v : Nat) : Bool := gb ins v && (gi g.p v == top)
def lostF (W : Int) (rest low : List Bool) (v : Nat) : Bool := gb rest v && (gb low v != (W == 0))
def anyB (f : Nat → Bool) (k : Nat) : Bool := (List.range k).any f
theorem anyB_succ (f : Nat → Bool) (k : Nat) : anyB f (k + 1) = (anyB f k || f k) := by unfold anyB; rw [List.range_succ, List.any_append]; simp
theorem anyB_no {f : Nat → Bool} {k : Nat} (h : anyB f k = false) {v : Nat} (hv : v < k) : f v = false := by
  unfold anyB at h
  rw [List.any_eq_false] at h
  simpa using h v (List.mem_range.2 hv)
theorem anyB_yes {f : Nat → Bool} {k : Nat} (h : anyB f k = true) : ∃ v, v < k ∧ f v = true := by
  unfold anyB at h
  rw [List.any_eq_true] at h
  obtain ⟨v, hv, e⟩ := h
  exact ⟨v, List.mem_range.1 hv, e⟩
theorem goal_iff {top : Int} {v : Nat} (hv : InS N ins v) : gb (fillB (goalM g ins top) N N) v = true ↔ (pgOf g).pr v = top := by
  rw [fillB_iff]
  unfold goalM
  simp [hv.1, hv.2, pgOf]
theorem win_all {W : Int} {A low : List Bool} {rk : Nat → Nat} (_hf : fine7 g N) (hw : W = 0 ∨ W = 1) (ht : tpUp g.p ins N % 2 = W)
    (hA : AttrIn (pgOf g) (InS N ins) W (fun v => gb (fillB (goalM g ins (tpUp g.p ins N)) N N) v = true) (fun v => gb A v = true) rk) (hl : WinRes g N (lessM ins A N) low)
    (hn : anyB (lostF W (lessM ins A N) low) N = false) : WinRes g N ins (fillB (fun v => gb ins v && (W == 0)) N N) := by
  have hout : ∀ v, gb (fillB (fun v => gb ins v && (W == 0)) N N) v = true ↔ InS N ins v ∧ W = 0 := fun v => by
    rw [fillB_iff]; simp [InS, and_assoc]
  refine ⟨fillB_len _ _ _, fun v hv => ((hout v).1 hv).1.2, fun htot => ?_⟩
  have htr : totS g N (lessM ins A N) := fun v hv => by
    obtain ⟨h1, h2⟩ := ins_less.1 hv
    obtain ⟨u, he, hu, hn⟩ := tot_rest htot hA v h1 h2
    exact ⟨u, he, ins_less.2 ⟨hu, hn⟩⟩
  obtain ⟨hl1, hl2, hl3⟩ := hl
  obtain ⟨w0, w1⟩ := hl3 htr
  have hlost : ∀ v, InS N (lessM ins A N) v → (gb low v = true ↔ W = 0) := fun v hv => by
    have := anyB_no hn hv.1
    unfold lostF at this
    rw [hv.2] at this
    rcases hw with rfl | rfl
    · simp at this; simp [this]
    · simp at this; simp [this]
  have hR : ∃ s', WinsIn (pgOf g) (fun v => InS N ins v ∧ ¬ gb A v = true) W (fun v => InS N ins v ∧ ¬ gb A v = true) s' := by
    rcases hw with rfl | rfl
    · exact wins_congr w0 (fun v => ⟨fun h => ins_less.1 ⟨by have := hl2 v h; exact (lessM_iff.1 this).1, hl2 v h⟩, fun h => (hlost v (ins_less.2 h)).2 rfl⟩) (fun v => ins_less)
    · exact wins_congr w1 (fun v => ⟨fun h => ins_less.1 h.1, fun h => ⟨ins_less.2 h, by
        cases e : gb low v with
        | false => rfl
        | true => have := (hlost v (ins_less.2 h)).1 e; omega⟩⟩) (fun v => ins_less)
  obtain ⟨s', hR⟩ := hR
  have hall := ziel_all (p := tpUp g.p ins N) (fun v hv => htot v hv) (fun v hv => tpUp_ge hv.1 hv.2) ht (attr_congr hA fun v hv => goal_iff hv) hR
  rcases hw with rfl | rfl
  · exact ⟨wins_congr hall (fun v => by rw [hout]; simp) (fun v => Iff.rfl), wins_empty fun v hv => by
      have h1 : gb (fillB (fun v => gb ins v && ((0 : Int) == 0)) N N) v = true := (hout v).2 ⟨hv.1, rfl⟩
      rw [h1] at hv; cases hv.2⟩
  · refine ⟨wins_empty fun v hv => ?_, wins_congr hall (fun v => ⟨fun h => ⟨h, ?_⟩, fun h => h.1⟩) (fun v => Iff.rfl)⟩
    · have := ((hout v).1 hv).2; omega
    · cases e : gb (fillB (fun v => gb ins v && ((1 : Int) == 0)) N N) v with
      | false => rfl
      | true => have := ((hout v).1 e).2; omega
theorem win_some {W : Int} {A low away again : List Bool} {rk rk' : Nat → Nat} {T : Nat → Prop} (hf : fine7 g N) (hw : W = 0 ∨ W = 1)
    (hA : AttrIn (pgOf g) (InS N ins) W T (fun v => gb A v = true) rk) (hl : WinRes g N (lessM ins A N) low)
    (hB : AttrIn (pgOf g) (InS N ins) (1 - W) (fun v => gb (fillB (lostF W (lessM ins A N) low) N N) v = true) (fun v => gb away v = true) rk') (hY : WinRes g N (lessM ins away N) again) :
    WinRes g N ins (fillB (fun v => gb again v || (gb away v && (W == 1))) N N) := by
  obtain ⟨hl1, hl2, hl3⟩ := hl
  obtain ⟨hy1, hy2, hy3⟩ := hY
  have hyi : ∀ v, gb again v = true → v < N ∧ gb ins v = true ∧ gb away v = false := fun v h => lessM_iff.1 (hy2 v h)
  have hai : ∀ v, gb away v = true → InS N ins v := hB.sub
  have hout : ∀ v, gb (fillB (fun v => gb again v || (gb away v && (W == 1))) N N) v = true ↔ gb again v = true ∨ (gb away v = true ∧ W = 1) := fun v => by
    rw [fillB_iff]
    simp
    intro h
    rcases h with h | h
    · exact (hyi v h).1
    · exact (hai v h.1).1
  refine ⟨fillB_len _ _ _, fun v hv => ?_, fun htot => ?_⟩
  · rcases (hout v).1 hv with h | h
    · exact (hyi v h).2.1
    · exact (hai v h.1).2
  have htr : totS g N (lessM ins A N) := fun v hv => by
    obtain ⟨h1, h2⟩ := ins_less.1 hv
    obtain ⟨u, he, hu, hn⟩ := tot_rest htot hA v h1 h2
    exact ⟨u, he, ins_less.2 ⟨hu, hn⟩⟩
  have hta : totS g N (lessM ins away N) := fun v hv => by
    obtain ⟨h1, h2⟩ := ins_less.1 hv
    obtain ⟨u, he, hu, hn⟩ := tot_rest htot hB v h1 h2
    exact ⟨u, he, ins_less.2 ⟨hu, hn⟩⟩
  obtain ⟨l0, l1⟩ := hl3 htr
  obtain ⟨y0, y1⟩ := hy3 hta
  have hown : ∀ v, InS N ins v → (pgOf g).own v = W ∨ (pgOf g).own v = 1 - W := fun v hv => by
    have := hf.own v hv.1
    show gi g.o v = W ∨ gi g.o v = 1 - W
    omega
  have hown' : ∀ v, InS N ins v → (pgOf g).own v = 1 - W ∨ (pgOf g).own v = W := fun v hv => (hown v hv).symm
  have hlost : ∀ v, InS N (lessM ins A N) v → (gb (fillB (lostF W (lessM ins A N) low) N N) v = true ↔ ¬ (gb low v = true ↔ W = 0)) := fun v hv => by
    rw [fillB_iff]
    unfold lostF
    rw [hv.2]
    rcases hw with rfl | rfl <;> simp [hv.1]
  have hL : ∃ sL, WinsIn (pgOf g) (fun v => InS N ins v ∧ ¬ gb A v = true) (1 - W) (fun v => gb (fillB (lostF W (lessM ins A N) low) N N) v = true) sL := by
    have hsub : ∀ v, gb (fillB (lostF W (lessM ins A N) low) N N) v = true → InS N (lessM ins A N) v := fun v h => by
      have h1 := fillB_iff.1 h
      unfold lostF at h1
      simp at h1
      exact ⟨h1.1, h1.2.1⟩
    rcases hw with rfl | rfl
    · refine wins_congr l1 (fun v => ⟨fun h => (hlost v h.1).2 (by simp [h.2]), fun h => ⟨hsub v h, ?_⟩⟩) (fun v => ins_less)
      have := (hlost v (hsub v h)).1 h
      simpa using this
    · refine wins_congr l0 (fun v => ⟨fun h => (hlost v ⟨(lessM_iff.1 (hl2 v h)).1, hl2 v h⟩).2 (by simp [h]), fun h => ?_⟩) (fun v => ins_less)
      have := (hlost v (hsub v h)).1 h
      simpa using this
  obtain ⟨sL, hL⟩ := hL
  have hmine : ∀ (i : Int) (Y : Nat → Prop), i = W → (∃ s, WinsIn (pgOf g) (InS N (lessM ins away N)) i Y s) → ∃ s, WinsIn (pgOf g) (InS N ins) i Y s := fun i Y e hh => by
    subst e
    obtain ⟨s, hs⟩ := wins_congr hh (fun v => Iff.rfl) (fun v => ins_less (N := N) (ins := ins) (away := away))
    exact ⟨s, ziel_mine hown hB hs⟩
  have hyours : ∀ (i : Int) (Y : Nat → Prop), i = 1 - W → (∃ s, WinsIn (pgOf g) (InS N (lessM ins away N)) i Y s) → ∃ s, WinsIn (pgOf g) (InS N ins) i (fun v => gb away v = true ∨ Y v) s := fun i Y e hh => by
    subst e
    obtain ⟨s, hs⟩ := wins_congr hh (fun v => Iff.rfl) (fun v => ins_less (N := N) (ins := ins) (away := away))
    exact ziel_yours (i := W) (j := 1 - W) (by omega) hown hA hL hB hs
  rcases hw with rfl | rfl
  · refine ⟨wins_congr (hmine 0 _ rfl y0) (fun v => by rw [hout]; simp) (fun v => Iff.rfl), wins_congr (hyours 1 _ rfl y1) (fun v => ⟨fun h => ?_, fun h => ?_⟩) (fun v => Iff.rfl)⟩
    · refine ⟨h.elim (hai v) (fun h => (ins_less.1 h.1).1), ?_⟩
      cases e : gb (fillB (fun v => gb again v || (gb away v && ((0 : Int) == 1))) N N) v with
      | false => rfl
      | true =>
        rcases (hout v).1 e with h1 | h1
        · rcases h with h | h
          · have := (hyi v h1).2.2; rw [h] at this; cases this
          · rw [h1] at h; cases h.2
        · omega
    · by_cases ha : gb away v = true
      · exact .inl ha
      · refine .inr ⟨ins_less.2 ⟨h.1, ha⟩, ?_⟩
        cases e : gb again v with
        | false => rfl
        | true => have := (hout v).2 (.inl e); rw [this] at h; cases h.2
  · refine ⟨wins_congr (hyours 0 _ rfl y0) (fun v => by rw [hout]; simp; exact Or.comm) (fun v => Iff.rfl), wins_congr (hmine 1 _ rfl y1) (fun v => ⟨fun h => ?_, fun h => ?_⟩) (fun v => Iff.rfl)⟩
    · obtain ⟨h1, h2⟩ := ins_less.1 h.1
      refine ⟨h1, ?_⟩
      cases e : gb (fillB (fun v => gb again v || (gb away v && ((1 : Int) == 1))) N N) v with
      | false => rfl
      | true =>
        rcases (hout v).1 e with h3 | h3
        · rw [h3] at h; cases h.2
        · exact absurd h3.1 h2
    · have hn : ¬ (gb again v = true ∨ gb away v = true ∧ (1 : Int) = 1) := fun h3 => by
        have := (hout v).2 h3
        rw [this] at h; cases h.2
      refine ⟨ins_less.2 ⟨h.1, fun h3 => hn (.inr ⟨h3, rfl⟩)⟩, ?_⟩
      cases e : gb again v with
      | false => rfl
      | true => exact absurd (.inl e) hn
end
end Go.Proofs.Ytblmcmccdeelgaa
namespace Go.Proofs.Ytblmcmccdeelgaa
open Go.RowKit

set_option maxRecDepth 100000 in
set_option maxHeartbeats 400000 in
theorem l7Less (A C : Option Addr) (ca cc N : Nat) (a b : List Bool) (w : World) (B : Nat) (hB : B ≤ w.heap.size) (ha : RB w A N ca a) (hb : RB w C N cc b) (hN : N ≤ 256) :
    Calls Try.prog 81 #[.slice A N ca, .slice C N cc] w fun e w' => ∃ v, e = .returned v ∧ OB 4 w' B v (lessM a b N) ∧ Below B w w' := by
  have b1 := ha.cap; have b2 := ha.top; have b3 := hb.cap; have b4 := hb.top
  go_enter Try.func81, Try.ntmps81
  go_wp2_with (refine wpList_makeB rfl (.tmp 8) rfl _ N rfl (by omega) ?_; intro w1 ho1 hb1)
  go_loopw [6] (fun i wr => ∃ k : Nat, k ≤ N ∧ i = .int .i64 k ∧ OB 4 wr w.heap.size (.slice (some ⟨w.heap.size, 0, none⟩) N N) (fillB (fun v => gb a v && !gb b v) N k) ∧ Below w.heap.size w wr) (fun i _ => N - (intOf i).toNat)
  case atStart => exact ⟨0, Nat.zero_le _, rfl, by rw [fillB_zero]; exact ho1, hb1⟩
  case round =>
    clear ho1 hb1
    obtain ⟨k, hk, rfl, ho, hbr⟩ := hrel
    by_cases hlt : k < N
    · obtain ⟨b1_, o1, rfl, hca⟩ := (ha.keep (keeps_below hbr)).at_ hlt
      obtain ⟨b2_, o2, rfl, hcb⟩ := (hb.keep (keeps_below hbr)).at_ hlt
      have hki : (k : Int) < (N : Int) := by omega
      have hk0 : (0 : Int) ≤ (k : Int) := by omega
      have hcm := ho.at_ (i := k) (by rw [fillB_len]; exact hlt)
      have hfz := ho.hot (i := k) (by rw [fillB_len])
      have HO := Lib.hid ho
      clear ho
      cases h1 : gb a k with
      | false =>
        rw [h1] at hca
        have HX := Lib.hid (show fillB (fun v => gb a v && !gb b v) N (k + 1) = (fillB (fun v => gb a v && !gb b v) N k).set k false by rw [← fillB_put hlt]; show (fillB (fun v => gb a v && !gb b v) N k).set k (gb a k && !gb b k) = _; rw [h1]; rfl)
        clear h1
        go_wp2
        go_roundw
        case rel => exact ⟨k + 1, by omega, by go_num, by rw [HX.out]; exact HO.out.set_ (by rw [fillB_len]) _, below_set (by show w.heap.size ≤ w.heap.size; omega) hbr⟩
        case measure => simp [intOf]; omega
      | true =>
        rw [h1] at hca
        have H1 := Lib.hid h1
        clear h1
        cases h2 : gb b k with
        | false =>
          rw [h2] at hcb
          have HX := Lib.hid (show fillB (fun v => gb a v && !gb b v) N (k + 1) = (fillB (fun v => gb a v && !gb b v) N k).set k true by rw [← fillB_put hlt]; show (fillB (fun v => gb a v && !gb b v) N k).set k (gb a k && !gb b k) = _; rw [H1.out, h2]; rfl)
          clear h2
          go_wp2
          go_roundw
          case rel => exact ⟨k + 1, by omega, by go_num, by rw [HX.out]; exact HO.out.set_ (by rw [fillB_len]) _, below_set (by show w.heap.size ≤ w.heap.size; omega) hbr⟩
          case measure => simp [intOf]; omega
        | true =>
          rw [h2] at hcb
          have HX := Lib.hid (show fillB (fun v => gb a v && !gb b v) N (k + 1) = (fillB (fun v => gb a v && !gb b v) N k).set k false by rw [← fillB_put hlt]; show (fillB (fun v => gb a v && !gb b v) N k).set k (gb a k && !gb b k) = _; rw [H1.out, h2]; rfl)
          clear h2
          go_wp2
          go_roundw
          case rel => exact ⟨k + 1, by omega, by go_num, by rw [HX.out]; exact HO.out.set_ (by rw [fillB_len]) _, below_set (by show w.heap.size ≤ w.heap.size; omega) hbr⟩
          case measure => simp [intOf]; omega
    · obtain rfl : k = N := by omega
      go_wp2
      go_ret
      exact ⟨_, rfl, ho.more hB, hbr.mono hB⟩

set_option maxRecDepth 100000 in
set_option maxHeartbeats 400000 in
theorem l7Top (s0 s1 s2 s3 s4 : Value) (g : S7) (N : Nat) (I : Option Addr) (ci : Nat) (ins : List Bool) (w : World) (B : Nat) (hB : B ≤ w.heap.size) (ha : R7 w s0 s1 s2 s3 s4 g) (hi : RB w I N ci ins) (hf : fine7 g N) :
    Calls Try.prog 80 #[.agg #[s0, s1, s2, s3, s4], .slice I N ci] w fun e w' => e = .returned (.int .i64 (tpUp g.p ins N)) ∧ Below B w w' := by
  obtain ⟨A0, n0, c0, A1, n1, c1, A2, n2, c2, A3, n3, c3, A4, n4, c4, rfl, rfl, rfl, rfl, rfl, r0, r1, r2, r3, r4⟩ := ha.form
  have bx := Box.new w 76 #[.slice A0 n0 c0, .slice A1 n1 c1, .slice A2 n2 c2, .slice A3 n3 c3, .slice A4 n4 c4]
  have hba : Below w.heap.size w (w.alloc (.cells #[.slice A0 n0 c0, .slice A1 n1 c1, .slice A2 n2 c2, .slice A3 n3 c3, .slice A4 n4 c4] 76)) := below_alloc (Nat.le_refl _) (Below.refl _ _)
  have b1 := r1.cap; have b2 := r1.top; have b3 := hi.cap; have b4 := hi.top
  have H1 := Lib.hid (show n1 = N by rw [← r1.len, hf.lp])
  have hpr := Lib.hid hf.pr
  have hN := hf.n2
  clear hf
  go_enter Try.func80, Try.ntmps80
  go_wp2
  go_loopw [5, 6] (fun c i wr => ∃ k : Nat, k ≤ N ∧ i = .int .i64 k ∧ c = .int .i64 (tpUp g.p ins k) ∧ Box wr w.heap.size 76 #[.slice A0 n0 c0, .slice A1 n1 c1, .slice A2 n2 c2, .slice A3 n3 c3, .slice A4 n4 c4] ∧ Below w.heap.size w wr) (fun _ i _ => N - (intOf i).toNat)
  case atStart => exact ⟨0, Nat.zero_le _, rfl, rfl, bx, hba⟩
  case round =>
    clear bx hba
    obtain ⟨k, hk, rfl, rfl, bx, hbr⟩ := hrel
    have q1 := bx.e1
    by_cases hlt : k < N
    · obtain ⟨bi, oi, rfl, hci⟩ := (hi.keep (keeps_below hbr)).at_ hlt
      have hl1 : k < n1 := by rw [H1.out]; exact hlt
      obtain ⟨bp, op, rfl, hcp⟩ := (r1.keep (keeps_below hbr)).at_ hl1
      have hki : (k : Int) < (N : Int) := by omega
      have hk1 : (k : Int) < (n1 : Int) := by omega
      have hk0 : (0 : Int) ≤ (k : Int) := by omega
      cases h1 : gb ins k with
      | false =>
        rw [h1] at hci
        have HX := Lib.hid (show tpUp g.p ins (k + 1) = tpUp g.p ins k by rw [tpUp, if_neg (by rw [h1]; simp)])
        clear h1
        go_wp2
        go_roundw
        case rel => exact ⟨k + 1, by omega, by go_num, by rw [HX.out], bx, hbr⟩
        case measure => simp [intOf]; omega
      | true =>
        rw [h1] at hci
        have HX := Lib.hid (show tpUp g.p ins (k + 1) = if gi g.p k < tpUp g.p ins k then tpUp g.p ins k else gi g.p k by rw [tpUp, if_pos h1]; rfl)
        clear h1
        go_wp2_with fail
        refine (l1Max _ _ _).mono ?_; rintro e w2 ⟨rfl, q, rfl⟩
        rw [← HX.out]
        go_wp2
        go_roundw
        case rel => exact ⟨k + 1, by omega, by go_num, rfl, bx.drewN _, below_drewN hbr _⟩
        case measure => simp [intOf]; omega
    · obtain rfl : k = N := by omega
      go_wp2
      go_ret
      exact ⟨rfl, hbr.mono hB⟩


/-- what l7Win leaves -/
def WinPost (g : S7) (N : Nat) (ins : List Bool) (w : World) (B : Nat) (e : Ending) (w' : World) : Prop := ∃ v out, e = .returned v ∧ OB 4 w' B v out ∧ WinRes g N ins out ∧ Below B w w'

set_option maxRecDepth 100000 in
set_option maxHeartbeats 6400000 in
theorem l7Win (m : Nat) : ∀ (s0 s1 s2 s3 s4 : Value) (g : S7) (N : Nat) (I : Option Addr) (ci : Nat) (ins : List Bool) (w : World) (B : Nat) (hB : B ≤ w.heap.size) (ha : R7 w s0 s1 s2 s3 s4 g) (hi : RB w I N ci ins) (hf : fine7 g N) (hm : cn N (gb ins) = m),
    Calls Try.prog 73 #[.agg #[s0, s1, s2, s3, s4], .slice I N ci] w (WinPost g N ins w B) := by
  induction m using Nat.strongRecOn with
  | _ m ih =>
  intro s0 s1 s2 s3 s4 g N I ci ins w B hB ha hi hf hm
  obtain ⟨A0, n0, c0, A1, n1, c1, A2, n2, c2, A3, n3, c3, A4, n4, c4, rfl, rfl, rfl, rfl, rfl, r0, r1, r2, r3, r4⟩ := ha.form
  have bx := Box.new w 76 #[.slice A0 n0 c0, .slice A1 n1 c1, .slice A2 n2 c2, .slice A3 n3 c3, .slice A4 n4 c4]
  have hba : Below w.heap.size w (w.alloc (.cells #[.slice A0 n0 c0, .slice A1 n1 c1, .slice A2 n2 c2, .slice A3 n3 c3, .slice A4 n4 c4] 76)) := below_alloc (Nat.le_refl _) (Below.refl _ _)
  have har := ha
  have b3 := hi.cap; have b4 := hi.top; have b5 := r1.cap; have b6 := r1.top
  have hN1 := hf.n1; have hN2 := hf.n2
  have H1 := Lib.hid (show n1 = N by rw [← r1.len, hf.lp])
  have HF := Lib.hid hf; have IH := Lib.hid ih; have HM := Lib.hid hm
  have htb := tpUp_bd (ins := ins) hf.pr N (Nat.le_refl _)
  have q0 := bx.e0; have q1 := bx.e1; have q2 := bx.e2; have q3 := bx.e3; have q4 := bx.e4
  clear ih hm hf
  by_cases htop : tpUp g.p ins N < 0
  · have HR := Lib.hid (win_none HF.out.pr htop)
    go_enter Try.func73, Try.ntmps73
    go_wp2_with fail
    refine (l7Top _ _ _ _ _ g N _ _ ins _ _ (Nat.le_refl _) (har.keep (keeps_below hba)) (hi.keep (keeps_below hba)) HF.out).mono ?_; rintro e w1 ⟨rfl, hb1⟩
    have hw1 := below_then hb1 hba.size hba
    generalize tpUp g.p ins N = top at *
    go_wp2_with (refine wpList_makeB rfl (.tmp 23) rfl _ N rfl (by omega) ?_; intro w2 ho2 hb2)
    go_ret
    exact ⟨_, _, rfl, ho2.more (by have := hw1.size; omega), HR.out, (below_then hb2 hw1.size hw1).mono hB⟩
  · obtain ⟨ht0, ht1⟩ := htb
    have htop0 : 0 ≤ tpUp g.p ins N := by omega
    have HTH := Lib.hid (tpUp_hit htop0)
    obtain ⟨tp, htp⟩ : ∃ tp, tpUp g.p ins N = tp := ⟨_, rfl⟩
    have HTP := Lib.hid htp
    rw [htp] at htop ht0 ht1 htop0
    have hw2 : tp % 2 = 0 ∨ tp % 2 = 1 := by omega
    clear htp
    rcases hw2 with hwho | hwho

    · have HW := Lib.hid (show tpUp g.p ins N % 2 = 0 by rw [HTP.out]; exact hwho)
      go_enter Try.func73, Try.ntmps73
      go_wp2_with fail
      refine (l7Top _ _ _ _ _ g N _ _ ins _ _ (Nat.le_refl _) (har.keep (keeps_below hba)) (hi.keep (keeps_below hba)) HF.out).mono ?_; rintro e w1 ⟨rfl, hb1⟩
      rw [HTP.out]
      have bx1 := bx.on hb1
      have hw1 := below_then hb1 hba.size hba
      have hl0 : w.heap.size < w1.heap.size := bx1.lt
      clear q0 q1 q2 q3 q4 bx hba hb1
      go_wp2_with (first
        | (refine wpList_makeB rfl (.tmp 23) rfl _ N rfl (by omega) ?_; intro w2 ho2 hb2; have bx2 := bx1.on hb2; have hw2 := below_then hb2 hw1.size hw1; have hl2 : w1.heap.size < w2.heap.size := (ho2.lt _ rfl).2; clear bx1 hw1 hb2)
        | (refine wpList_makeB rfl (.tmp 31) rfl _ N rfl (by omega) ?_; intro w3 ho3 hb3; have bx3 := bx2.on hb3; have hw3 := below_then hb3 hw2.size hw2; have hl3 : w2.heap.size < w3.heap.size := (ho3.lt _ rfl).2; have ho23 := ho2.below hb3; clear bx2 hw2 hb3 ho2))
      clear hwho
      go_loopw [9] (fun i wr => ∃ k : Nat, k ≤ N ∧ i = .int .i64 k ∧ OB 4 wr w2.heap.size (.slice (some ⟨w2.heap.size, 0, none⟩) N N) (fillB (goalM g ins tp) N k) ∧ OB 4 wr w1.heap.size (.slice (some ⟨w1.heap.size, 0, none⟩) N N) (List.replicate N false) ∧ Box wr w.heap.size 76 #[.slice A0 n0 c0, .slice A1 n1 c1, .slice A2 n2 c2, .slice A3 n3 c3, .slice A4 n4 c4] ∧ Below w.heap.size w wr) (fun i _ => N - (intOf i).toNat)
      case atStart => exact ⟨0, Nat.zero_le _, rfl, by rw [fillB_zero]; exact ho3, ho23, bx3, hw3⟩
      case round =>
        clear ho3 ho23 bx3 hw3
        obtain ⟨k, hk, rfl, ho, hz, bx, hbr⟩ := hrel
        have q1 := bx.e1
        by_cases hlt : k < N
        · obtain ⟨bi, oi, rfl, hci⟩ := (hi.keep (keeps_below hbr)).at_ hlt
          have hl1 : k < n1 := by rw [H1.out]; exact hlt
          obtain ⟨bp, op, rfl, hcp⟩ := (r1.keep (keeps_below hbr)).at_ hl1
          have hki : (k : Int) < (N : Int) := by omega
          have hk1 : (k : Int) < (n1 : Int) := by omega
          have hk0 : (0 : Int) ≤ (k : Int) := by omega
          have hcm := ho.at_ (i := k) (by rw [fillB_len]; exact hlt)
          have hfz := ho.hot (i := k) (by rw [fillB_len])
          have HO := Lib.hid ho
          clear ho
          have HP := Lib.hid (show ∀ b, goalM g ins tp k = b → fillB (goalM g ins tp) N (k + 1) = (fillB (goalM g ins tp) N k).set k b from fun b hb => by rw [← hb]; exact (fillB_put hlt).symm)
          cases h1 : gb ins k with
          | false =>
            rw [h1] at hci
            have HX := Lib.hid (HP.out false (by unfold goalM; rw [h1]; rfl))
            clear h1
            go_wp2
            go_roundw
            case rel => exact ⟨k + 1, by omega, by go_num, by rw [HX.out]; exact HO.out.set_ (by rw [fillB_len]) _, hz.off (by show w1.heap.size ≠ w2.heap.size; omega) _, bx.far (by show w.heap.size ≠ w2.heap.size; omega) _, below_set (by show w.heap.size ≤ w2.heap.size; omega) hbr⟩
            case measure => simp [intOf]; omega
          | true =>
            rw [h1] at hci
            cases h2 : gi g.p k == tp with
            | false =>
              have HX := Lib.hid (HP.out false (by unfold goalM; rw [h1, h2]; rfl))
              clear h1
              go_wp2
              go_roundw
              case rel => exact ⟨k + 1, by omega, by go_num, by rw [HX.out]; exact HO.out.set_ (by rw [fillB_len]) _, hz.off (by show w1.heap.size ≠ w2.heap.size; omega) _, bx.far (by show w.heap.size ≠ w2.heap.size; omega) _, below_set (by show w.heap.size ≤ w2.heap.size; omega) hbr⟩
              case measure => simp [intOf]; omega
            | true =>
              have HX := Lib.hid (HP.out true (by unfold goalM; rw [h1, h2]; rfl))
              clear h1
              go_wp2
              go_roundw
              case rel => exact ⟨k + 1, by omega, by go_num, by rw [HX.out]; exact HO.out.set_ (by rw [fillB_len]) _, hz.off (by show w1.heap.size ≠ w2.heap.size; omega) _, bx.far (by show w.heap.size ≠ w2.heap.size; omega) _, below_set (by show w.heap.size ≤ w2.heap.size; omega) hbr⟩
              case measure => simp [intOf]; omega
        · obtain rfl : k = N := by omega
          obtain ⟨N, rfl⟩ : ∃ N : Nat, N = k := ⟨_, rfl⟩
          have q0 := bx.e0; have q2 := bx.e2; have q3 := bx.e3; have q4 := bx.e4
          generalize wr = v0 at *
          go_wp2_with fail
          refine (l7Attract _ _ _ _ _ g N _ _ _ _ ins (fillB (goalM g ins tp) N N) 0 _ _ (Nat.le_refl _) (har.keep (keeps_below hbr)) (hi.keep (keeps_below hbr)) ho.reads HF.out).mono ?_; rintro e v1 ⟨vA, A, rfl, hoA, hA, hb1⟩
          have hv1 := below_then hb1 hbr.size hbr
          have bx1 := bx.on hb1; have hz1 := hz.below hb1
          obtain ⟨AA, cA, hve⟩ := hoA.form
          rw [hA.1] at hve
          subst hve
          have HA := Lib.hid hA
          clear hA q0 q1 q2 q3 q4 bx hz ho hbr hb1
          go_wp2_with fail
          refine (l7Less _ _ _ _ N ins A _ _ (Nat.le_refl _) (hi.keep (keeps_below hv1)) hoA.reads hN2).mono ?_; rintro e v2 ⟨vR, rfl, hoR, hb2⟩
          have hv2 := below_then hb2 hv1.size hv1
          have bx2 := bx1.on hb2; have hz2 := hz1.below hb2
          obtain ⟨AR, cR, hve⟩ := hoR.form
          rw [show (lessM ins A N).length = N from fillB_len _ _ _] at hve
          subst hve
          have HC := Lib.hid (show cn N (gb (lessM ins A N)) < m by
            obtain ⟨v, hv, h1, h2⟩ := HTH.out
            obtain ⟨rk, hat⟩ := HA.out.2.2
            rw [HTP.out] at h2
            have h3 : gb A v = true := hat.goal v ⟨hv, h1⟩ (fillB_iff.2 ⟨hv, by unfold goalM; simp [h1, h2]⟩)
            have := less_cn hv h1 h3
            rw [HM.out] at this
            exact this)
          have hsz2 := hb2.size
          clear bx1 hz1 hoA hv1 hb2
          have q0 := bx2.e0; have q1 := bx2.e1; have q2 := bx2.e2; have q3 := bx2.e3; have q4 := bx2.e4
          go_wp2_with fail
          refine (IH.out _ HC.out _ _ _ _ _ g N _ _ (lessM ins A N) _ _ (Nat.le_refl _) (har.keep (keeps_below hv2)) hoR.reads HF.out rfl).mono ?_; rintro e v3 ⟨vL, low, rfl, hoL, hL, hb3⟩
          have hv3 := below_then hb3 hv2.size hv2
          have bx3 := bx2.on hb3; have hz3 := hz2.below hb3; have hoR3 := hoR.below hb3
          obtain ⟨AL, cL, hve⟩ := hoL.form
          rw [hL.1] at hve
          subst hve
          have HL := Lib.hid hL
          have hrR := hoR3.reads; have hrL := hoL.reads
          have hlz : v3.heap.size = v3.heap.size := rfl
          clear hL q0 q1 q2 q3 q4 bx2 hz2 hoR hv2 hb3 hlz
          have c1_ := hrR.cap; have c2_ := hrR.top; have c3_ := hrL.cap; have c4_ := hrL.top
          go_wp2_with (refine wpList_makeB rfl (.tmp 66) rfl _ N rfl (by omega) ?_; intro v4 ho4 hb4)
          go_loopw [13, 14] (fun s i wr => ∃ k : Nat, k ≤ N ∧ i = .int .i64 k ∧ s = .bool (anyB (lostF 0 (lessM ins A N) low) k) ∧ OB 4 wr v3.heap.size (.slice (some ⟨v3.heap.size, 0, none⟩) N N) (fillB (lostF 0 (lessM ins A N) low) N k) ∧ Below v3.heap.size v3 wr) (fun _ i _ => N - (intOf i).toNat)
          case atStart => exact ⟨0, Nat.zero_le _, rfl, rfl, by rw [fillB_zero]; exact ho4, hb4⟩
          case round =>
            clear ho4 hb4
            obtain ⟨k, hk, rfl, rfl, ho, hbr⟩ := hrel
            by_cases hlt : k < N
            · obtain ⟨br, orr, rfl, hcr⟩ := (hrR.keep (keeps_below hbr)).at_ hlt
              obtain ⟨bl, oll, rfl, hcl⟩ := (hrL.keep (keeps_below hbr)).at_ hlt
              have hki : (k : Int) < (N : Int) := by omega
              have hk0 : (0 : Int) ≤ (k : Int) := by omega
              have hcm := ho.at_ (i := k) (by rw [fillB_len]; exact hlt)
              have hfz := ho.hot (i := k) (by rw [fillB_len])
              have HO := Lib.hid ho
              clear ho
              have HP := Lib.hid (show ∀ b, (lostF 0 (lessM ins A N) low) k = b → fillB (lostF 0 (lessM ins A N) low) N (k + 1) = (fillB (lostF 0 (lessM ins A N) low) N k).set k b from fun b hb => by rw [← hb]; exact (fillB_put hlt).symm)
              have HQ := Lib.hid (show ∀ b, (lostF 0 (lessM ins A N) low) k = b → anyB (lostF 0 (lessM ins A N) low) (k + 1) = (anyB (lostF 0 (lessM ins A N) low) k || b) from fun b hb => by rw [← hb]; exact anyB_succ _ _)
              cases h1 : gb (lessM ins A N) k with
              | false =>
                rw [h1] at hcr
                have hb : (lostF 0 (lessM ins A N) low) k = false := by unfold lostF; rw [h1]; rfl
                have HX := Lib.hid (HP.out false hb); have HY := Lib.hid ((HQ.out false hb).trans (Bool.or_false _))
                clear h1 hb
                cases hs : anyB (lostF 0 (lessM ins A N) low) k with
                | true =>
                  have HZ := Lib.hid (HY.out.trans hs)
                  clear hs
                  go_wp2
                  go_roundw
                  case rel => exact ⟨k + 1, by omega, by go_num, by (rw [HZ.out]; first | done | rfl), by rw [HX.out]; exact HO.out.set_ (by rw [fillB_len]) _, below_set (by show v3.heap.size ≤ v3.heap.size; omega) hbr⟩
                  case measure => simp [intOf]; omega
                | false =>
                  have HZ := Lib.hid (HY.out.trans hs)
                  clear hs
                  go_wp2
                  go_roundw
                  case rel => exact ⟨k + 1, by omega, by go_num, by (rw [HZ.out]; first | done | rfl), by rw [HX.out]; exact HO.out.set_ (by rw [fillB_len]) _, below_set (by show v3.heap.size ≤ v3.heap.size; omega) hbr⟩
                  case measure => simp [intOf]; omega
              | true =>
                rw [h1] at hcr
                cases h2 : gb low k with
                | false =>
                  rw [h2] at hcl
                  have hb : (lostF 0 (lessM ins A N) low) k = true := by unfold lostF; rw [h1, h2]; rfl
                  have HX := Lib.hid (HP.out true hb); have HY := Lib.hid (HQ.out true hb)
                  clear h1 h2 hb
                  cases hs : anyB (lostF 0 (lessM ins A N) low) k with
                  | true =>
                    have HZ := Lib.hid (HY.out.trans (by rw [hs] : (anyB (lostF 0 (lessM ins A N) low) k || true) = (true || true)))
                    clear hs
                    go_wp2
                    go_roundw
                    case rel => exact ⟨k + 1, by omega, by go_num, by (rw [HZ.out]; first | done | rfl), by rw [HX.out]; exact HO.out.set_ (by rw [fillB_len]) _, below_set (by show v3.heap.size ≤ v3.heap.size; omega) hbr⟩
                    case measure => simp [intOf]; omega
                  | false =>
                    have HZ := Lib.hid (HY.out.trans (by rw [hs] : (anyB (lostF 0 (lessM ins A N) low) k || true) = (false || true)))
                    clear hs
                    go_wp2
                    go_roundw
                    case rel => exact ⟨k + 1, by omega, by go_num, by (rw [HZ.out]; first | done | rfl), by rw [HX.out]; exact HO.out.set_ (by rw [fillB_len]) _, below_set (by show v3.heap.size ≤ v3.heap.size; omega) hbr⟩
                    case measure => simp [intOf]; omega
                | true =>
                  rw [h2] at hcl
                  have hb : (lostF 0 (lessM ins A N) low) k = false := by unfold lostF; rw [h1, h2]; rfl
                  have HX := Lib.hid (HP.out false hb); have HY := Lib.hid (HQ.out false hb)
                  clear h1 h2 hb
                  cases hs : anyB (lostF 0 (lessM ins A N) low) k with
                  | true =>
                    have HZ := Lib.hid (HY.out.trans (by rw [hs] : (anyB (lostF 0 (lessM ins A N) low) k || false) = (true || false)))
                    clear hs
                    go_wp2
                    go_roundw
                    case rel => exact ⟨k + 1, by omega, by go_num, by (rw [HZ.out]; first | done | rfl), by rw [HX.out]; exact HO.out.set_ (by rw [fillB_len]) _, below_set (by show v3.heap.size ≤ v3.heap.size; omega) hbr⟩
                    case measure => simp [intOf]; omega
                  | false =>
                    have HZ := Lib.hid (HY.out.trans (by rw [hs] : (anyB (lostF 0 (lessM ins A N) low) k || false) = (false || false)))
                    clear hs
                    go_wp2
                    go_roundw
                    case rel => exact ⟨k + 1, by omega, by go_num, by (rw [HZ.out]; first | done | rfl), by rw [HX.out]; exact HO.out.set_ (by rw [fillB_len]) _, below_set (by show v3.heap.size ≤ v3.heap.size; omega) hbr⟩
                    case measure => simp [intOf]; omega
            · obtain rfl : k = N := by omega
              obtain ⟨N, rfl⟩ : ∃ N : Nat, N = k := ⟨_, rfl⟩
              have hz4 := hz3.below hbr
              have hv4 := below_then hbr hv3.size hv3
              have bx4 := bx3.on hbr
              generalize wr = v5 at *
              have hwz5 : w1.heap.size < v5.heap.size := (hz4.lt _ rfl).2
              cases hsome : anyB (lostF 0 (lessM ins A N) low) N with
              | false =>
                have HR := Lib.hid (show WinRes g N ins (fillB (fun v => gb ins v && ((0 : Int) == 0)) N N) by
                  obtain ⟨rk, hat⟩ := HA.out.2.2
                  exact win_all HF.out (by omega) HW.out (by rw [HTP.out]; exact hat) HL.out hsome)
                clear hsome
                go_wp2
                go_loopw [15] (fun i wr => ∃ k : Nat, k ≤ N ∧ i = .int .i64 k ∧ OB 4 wr w1.heap.size (.slice (some ⟨w1.heap.size, 0, none⟩) N N) (fillB (fun v => gb ins v && ((0 : Int) == 0)) N k) ∧ Below w.heap.size w wr) (fun i _ => N - (intOf i).toNat)
                case atStart => exact ⟨0, Nat.zero_le _, rfl, by rw [fillB_zero]; exact hz4, hv4⟩
                case round =>
                  clear hz4 hv4 bx4
                  obtain ⟨k, hk, rfl, ho, hbr⟩ := hrel
                  by_cases hlt : k < N
                  · obtain ⟨bi, oi, rfl, hci⟩ := (hi.keep (keeps_below hbr)).at_ hlt
                    have hki : (k : Int) < (N : Int) := by omega
                    have hk0 : (0 : Int) ≤ (k : Int) := by omega
                    have hcm := ho.at_ (i := k) (by rw [fillB_len]; exact hlt)
                    have hfz := ho.hot (i := k) (by rw [fillB_len])
                    have HO := Lib.hid ho
                    clear ho
                    have HP := Lib.hid (show ∀ b, (gb ins k && ((0 : Int) == 0)) = b → fillB (fun v => gb ins v && ((0 : Int) == 0)) N (k + 1) = (fillB (fun v => gb ins v && ((0 : Int) == 0)) N k).set k b from fun b hb => by rw [← hb]; exact (fillB_put hlt).symm)
                    cases h1 : gb ins k with
                    | false =>
                      rw [h1] at hci
                      have HX := Lib.hid (HP.out false (by rw [h1]; rfl))
                      clear h1
                      go_wp2
                      go_roundw
                      case rel => exact ⟨k + 1, by omega, by go_num, by rw [HX.out]; exact HO.out.set_ (by rw [fillB_len]) _, below_set (by show w.heap.size ≤ w1.heap.size; omega) hbr⟩
                      case measure => simp [intOf]; omega
                    | true =>
                      rw [h1] at hci
                      have HX := Lib.hid (HP.out true (by rw [h1]; rfl))
                      clear h1
                      go_wp2
                      go_roundw
                      case rel => exact ⟨k + 1, by omega, by go_num, by rw [HX.out]; exact HO.out.set_ (by rw [fillB_len]) _, below_set (by show w.heap.size ≤ w1.heap.size; omega) hbr⟩
                      case measure => simp [intOf]; omega
                  · obtain rfl : k = N := by omega
                    go_wp2
                    go_ret
                    exact ⟨_, _, rfl, ho.more (by omega), HR.out, hbr.mono hB⟩
              | true =>
                have HS := Lib.hid hsome
                clear hsome
                have q0 := bx4.e0; have q1 := bx4.e1; have q2 := bx4.e2; have q3 := bx4.e3; have q4 := bx4.e4
                go_wp2_with fail
                refine (l7Attract _ _ _ _ _ g N _ _ _ _ ins (fillB (lostF 0 (lessM ins A N) low) N N) 1 _ _ (Nat.le_refl _) (har.keep (keeps_below hv4)) (hi.keep (keeps_below hv4)) ho.reads HF.out).mono ?_; rintro e v6 ⟨vW, away, rfl, hoW, hW6, hb6⟩
                have hv6 := below_then hb6 hv4.size hv4
                have bx6 := bx4.on hb6; have hz6 := hz4.below hb6
                obtain ⟨AW, cW, hve⟩ := hoW.form
                rw [hW6.1] at hve
                subst hve
                have HWY := Lib.hid hW6
                have HC2 := Lib.hid (show cn N (gb (lessM ins away N)) < m by
                  obtain ⟨v, hv, h1⟩ := anyB_yes HS.out
                  obtain ⟨rk, hat⟩ := hW6.2.2
                  have h2 : gb (lessM ins A N) v = true := by unfold lostF at h1; simp at h1; exact h1.1
                  have h3 := (lessM_iff.1 h2).2.1
                  have h4 : gb away v = true := hat.goal v ⟨hv, h3⟩ (fillB_iff.2 ⟨hv, h1⟩)
                  have := less_cn hv h3 h4
                  rw [HM.out] at this
                  exact this)
                clear hW6 q0 q1 q2 q3 q4 bx4 hz4 ho hv4 hb6
                have q0 := bx6.e0; have q1 := bx6.e1; have q2 := bx6.e2; have q3 := bx6.e3; have q4 := bx6.e4
                go_wp2_with fail
                refine wp_region_held_drew (S := (fun w' => w'.cell? ⟨w.heap.size, 0, none⟩ = some (.slice A0 n0 c0) ∧ w'.cell? ⟨w.heap.size, 1, none⟩ = some (.slice A1 n1 c1) ∧ w'.cell? ⟨w.heap.size, 2, none⟩ = some (.slice A2 n2 c2) ∧ w'.cell? ⟨w.heap.size, 3, none⟩ = some (.slice A3 n3 c3) ∧ w'.cell? ⟨w.heap.size, 4, none⟩ = some (.slice A4 n4 c4))) (by kernel_rfl) ⟨q0, q1, q2, q3, q4⟩ (fun hHeld => ?_)
                replace hv6 := Below.drew hv6
                replace bx6 : Box v6.drew w.heap.size 76 #[.slice A0 n0 c0, .slice A1 n1 c1, .slice A2 n2 c2, .slice A3 n3 c3, .slice A4 n4 c4] := bx6
                replace hz6 : OB 4 v6.drew w1.heap.size (.slice (some ⟨w1.heap.size, 0, none⟩) N N) (List.replicate N false) := hz6
                replace hoW : OB 4 v6.drew v5.heap.size (.slice AW N cW) away := hoW
                clear q0 q1 q2 q3 q4
                generalize v6.drew = v7 at *
                refine takeH0 (v := ?_) (by kernel_rfl) (by kernel_rfl) (by kernel_rfl) (fun _ _ _ h => h) hHeld (by rfl) ?_ ?_
                rotate_left; · (intro w hSw; (try dsimp only at hSw); go_simp; try with_reducible rfl)
                try simp only [Act.put, List.setIfInBounds_toArray, List.set_cons_zero, List.set_cons_succ]
                refine takeH1 (v := ?_) (by kernel_rfl) (by kernel_rfl) (by kernel_rfl) (fun _ _ _ h => h) hHeld (by rfl) ?_ ?_
                rotate_left; · (intro w hSw; (try dsimp only at hSw); go_simp; try with_reducible rfl)
                try simp only [Act.put, List.setIfInBounds_toArray, List.set_cons_zero, List.set_cons_succ]
                refine takeH2 (v := ?_) (by kernel_rfl) (by kernel_rfl) (by kernel_rfl) (fun _ _ _ h => h) hHeld (by rfl) ?_ ?_
                rotate_left; · (intro w hSw; (try dsimp only at hSw); go_simp; try with_reducible rfl)
                try simp only [Act.put, List.setIfInBounds_toArray, List.set_cons_zero, List.set_cons_succ]
                refine callH3 (by kernel_rfl) (fun K hK => ?_)
                go_simp
                go_at_call 81
                refine (l7Less _ _ _ _ N ins away _ _ (Nat.le_refl _) (hi.keep (keeps_below hv6)) hoW.reads hN2).mono ?_; rintro e v8 ⟨vB, rfl, hoB, hb8⟩
                have hv8 := below_then hb8 hv6.size hv6
                have bxN := bx6.on hb8; have hz8 := hz6.below hb8; have hrW8 := hoW.reads.keep (keeps_below hb8)
                obtain ⟨AB, cB, hve⟩ := hoB.form
                rw [show (lessM ins away N).length = N from fillB_len _ _ _] at hve
                subst hve
                clear bx6 hz6 hv6
                have q0 := bxN.e0; have q1 := bxN.e1; have q2 := bxN.e2; have q3 := bxN.e3; have q4 := bxN.e4
                go_wp2_with fail
                refine hK.out _ _ (⟨q0, q1, q2, q3, q4⟩) (fun hHeld => ?_)
                clear hK K
                try simp only [Act.put, List.setIfInBounds_toArray, List.set_cons_zero, List.set_cons_succ]
                refine callH4 (by kernel_rfl) (fun K hK => ?_)
                go_simp
                go_at_call 73
                refine (IH.out _ HC2.out _ _ _ _ _ g N _ _ (lessM ins away N) _ _ (Nat.le_refl _) (har.keep (keeps_below hv8)) hoB.reads HF.out rfl).mono ?_; rintro e v9 ⟨vG, again, rfl, hoG, hG, hb9⟩
                have hvG := below_then hb9 hv8.size hv8
                have bxM := bxN.on hb9; have hzG := hz8.below hb9; have hrW := hrW8.keep (keeps_below hb9)
                obtain ⟨AG, cG, hve⟩ := hoG.form
                rw [hG.1] at hve
                subst hve
                have HG := Lib.hid hG
                have hrG := hoG.reads
                have hnG : ∀ b off, AG = some ⟨b, off, none⟩ → b ≠ w1.heap.size := fun b off e => by subst e; have h4 : v8.heap.size ≤ b := (hoG.lt b rfl).1; have h5 : w1.heap.size < v8.heap.size := (hz8.lt _ rfl).2; omega
                have hnW : ∀ b off, AW = some ⟨b, off, none⟩ → b ≠ w1.heap.size := fun b off e => by subst e; have := (hoW.lt b rfl).1; omega
                have g1_ := hrG.cap; have g2_ := hrG.top; have g3_ := hrW.cap; have g4_ := hrW.top
                clear hG hoG q0 q1 q2 q3 q4 bxN hz8 hrW8 hoB hv8
                have q0 := bxM.e0; have q1 := bxM.e1; have q2 := bxM.e2; have q3 := bxM.e3; have q4 := bxM.e4
                go_wp2_with fail
                refine hK.out _ _ (⟨q0, q1, q2, q3, q4⟩) (fun hHeld => ?_)
                clear hK K
                try simp only [Act.put, List.setIfInBounds_toArray, List.set_cons_zero, List.set_cons_succ]
                refine takeH5 (v := ?_) (by kernel_rfl) (by kernel_rfl) (by kernel_rfl) (fun _ _ _ h => h) hHeld (by rfl) ?_ ?_
                rotate_left; · (intro w hSw; (try dsimp only at hSw); go_simp; try with_reducible rfl)
                try simp only [Act.put, List.setIfInBounds_toArray, List.set_cons_zero, List.set_cons_succ]
                refine wpAnyH_done (by kernel_rfl) ?_ _
                have HRES := Lib.hid (show WinRes g N ins (fillB (fun v => gb again v || (gb away v && ((0 : Int) == 1))) N N) by
                  obtain ⟨rk, hat⟩ := HA.out.2.2
                  obtain ⟨rk2, hat2⟩ := HWY.out.2.2
                  exact win_some HF.out (by omega) hat HL.out hat2 HG.out)
                go_wp2
                go_loopw [18] (fun i wr => ∃ k : Nat, k ≤ N ∧ i = .int .i64 k ∧ OB 4 wr w1.heap.size (.slice (some ⟨w1.heap.size, 0, none⟩) N N) (fillB (fun v => gb again v || (gb away v && ((0 : Int) == 1))) N k) ∧ (RB wr AG N cG again ∧ ∀ b off, AG = some ⟨b, off, none⟩ → b ≠ w1.heap.size) ∧ (RB wr AW N cW away ∧ ∀ b off, AW = some ⟨b, off, none⟩ → b ≠ w1.heap.size) ∧ Below w.heap.size w wr) (fun i _ => N - (intOf i).toNat)
                case atStart => exact ⟨0, Nat.zero_le _, rfl, by rw [fillB_zero]; exact hzG, ⟨hrG, hnG⟩, ⟨hrW, hnW⟩, hvG⟩
                case round =>
                  clear hzG hrG hrW hvG hnG hnW
                  obtain ⟨k, hk, rfl, ho, ⟨hrG, hnG⟩, ⟨hrW, hnW⟩, hbr⟩ := hrel
                  by_cases hlt : k < N
                  · obtain ⟨bg, og, rfl, hcg⟩ := hrG.at_ hlt
                    obtain ⟨ba, oa, rfl, hca⟩ := hrW.at_ hlt
                    have hbg := hnG _ _ rfl
                    have hba2 := hnW _ _ rfl
                    have hki : (k : Int) < (N : Int) := by omega
                    have hk0 : (0 : Int) ≤ (k : Int) := by omega
                    have hcm := ho.at_ (i := k) (by rw [fillB_len]; exact hlt)
                    have hfz := ho.hot (i := k) (by rw [fillB_len])
                    have HO := Lib.hid ho
                    clear ho
                    have HP := Lib.hid (show ∀ b, (gb again k || (gb away k && ((0 : Int) == 1))) = b → fillB (fun v => gb again v || (gb away v && ((0 : Int) == 1))) N (k + 1) = (fillB (fun v => gb again v || (gb away v && ((0 : Int) == 1))) N k).set k b from fun b hb => by rw [← hb]; exact (fillB_put hlt).symm)
                    cases h1 : gb again k with
                    | true =>
                      rw [h1] at hcg
                      have HX := Lib.hid (HP.out true (by rw [h1]; rfl))
                      clear h1
                      go_wp2
                      go_roundw
                      case rel => exact ⟨k + 1, by omega, by go_num, by rw [HX.out]; exact HO.out.set_ (by rw [fillB_len]) _, ⟨hrG.offB hbg _, hnG⟩, ⟨hrW.offB hba2 _, hnW⟩, below_set (by show w.heap.size ≤ w1.heap.size; omega) hbr⟩
                      case measure => simp [intOf]; omega
                    | false =>
                      rw [h1] at hcg
                      cases h2 : gb away k with
                      | false =>
                        rw [h2] at hca
                        have HX := Lib.hid (HP.out false (by rw [h1, h2]; rfl))
                        clear h1 h2
                        go_wp2
                        go_roundw
                        case rel => exact ⟨k + 1, by omega, by go_num, by rw [HX.out]; exact HO.out.set_ (by rw [fillB_len]) _, ⟨hrG.offB hbg _, hnG⟩, ⟨hrW.offB hba2 _, hnW⟩, below_set (by show w.heap.size ≤ w1.heap.size; omega) hbr⟩
                        case measure => simp [intOf]; omega
                      | true =>
                        rw [h2] at hca
                        have HX := Lib.hid (HP.out false (by rw [h1, h2]; rfl))
                        clear h1 h2
                        go_wp2
                        go_roundw
                        case rel => exact ⟨k + 1, by omega, by go_num, by rw [HX.out]; exact HO.out.set_ (by rw [fillB_len]) _, ⟨hrG.offB hbg _, hnG⟩, ⟨hrW.offB hba2 _, hnW⟩, below_set (by show w.heap.size ≤ w1.heap.size; omega) hbr⟩
                        case measure => simp [intOf]; omega
                  · obtain rfl : k = N := by omega
                    go_wp2
                    go_ret
                    exact ⟨_, _, rfl, ho.more (by omega), HRES.out, hbr.mono hB⟩

    · have HW := Lib.hid (show tpUp g.p ins N % 2 = 1 by rw [HTP.out]; exact hwho)
      go_enter Try.func73, Try.ntmps73
      go_wp2_with fail
      refine (l7Top _ _ _ _ _ g N _ _ ins _ _ (Nat.le_refl _) (har.keep (keeps_below hba)) (hi.keep (keeps_below hba)) HF.out).mono ?_; rintro e w1 ⟨rfl, hb1⟩
      rw [HTP.out]
      have bx1 := bx.on hb1
      have hw1 := below_then hb1 hba.size hba
      have hl0 : w.heap.size < w1.heap.size := bx1.lt
      clear q0 q1 q2 q3 q4 bx hba hb1
      go_wp2_with (first
        | (refine wpList_makeB rfl (.tmp 23) rfl _ N rfl (by omega) ?_; intro w2 ho2 hb2; have bx2 := bx1.on hb2; have hw2 := below_then hb2 hw1.size hw1; have hl2 : w1.heap.size < w2.heap.size := (ho2.lt _ rfl).2; clear bx1 hw1 hb2)
        | (refine wpList_makeB rfl (.tmp 31) rfl _ N rfl (by omega) ?_; intro w3 ho3 hb3; have bx3 := bx2.on hb3; have hw3 := below_then hb3 hw2.size hw2; have hl3 : w2.heap.size < w3.heap.size := (ho3.lt _ rfl).2; have ho23 := ho2.below hb3; clear bx2 hw2 hb3 ho2))
      clear hwho
      go_loopw [9] (fun i wr => ∃ k : Nat, k ≤ N ∧ i = .int .i64 k ∧ OB 4 wr w2.heap.size (.slice (some ⟨w2.heap.size, 0, none⟩) N N) (fillB (goalM g ins tp) N k) ∧ OB 4 wr w1.heap.size (.slice (some ⟨w1.heap.size, 0, none⟩) N N) (List.replicate N false) ∧ Box wr w.heap.size 76 #[.slice A0 n0 c0, .slice A1 n1 c1, .slice A2 n2 c2, .slice A3 n3 c3, .slice A4 n4 c4] ∧ Below w.heap.size w wr) (fun i _ => N - (intOf i).toNat)
      case atStart => exact ⟨0, Nat.zero_le _, rfl, by rw [fillB_zero]; exact ho3, ho23, bx3, hw3⟩
      case round =>
        clear ho3 ho23 bx3 hw3
        obtain ⟨k, hk, rfl, ho, hz, bx, hbr⟩ := hrel
        have q1 := bx.e1
        by_cases hlt : k < N
        · obtain ⟨bi, oi, rfl, hci⟩ := (hi.keep (keeps_below hbr)).at_ hlt
          have hl1 : k < n1 := by rw [H1.out]; exact hlt
          obtain ⟨bp, op, rfl, hcp⟩ := (r1.keep (keeps_below hbr)).at_ hl1
          have hki : (k : Int) < (N : Int) := by omega
          have hk1 : (k : Int) < (n1 : Int) := by omega
          have hk0 : (0 : Int) ≤ (k : Int) := by omega
          have hcm := ho.at_ (i := k) (by rw [fillB_len]; exact hlt)
          have hfz := ho.hot (i := k) (by rw [fillB_len])
          have HO := Lib.hid ho
          clear ho
          have HP := Lib.hid (show ∀ b, goalM g ins tp k = b → fillB (goalM g ins tp) N (k + 1) = (fillB (goalM g ins tp) N k).set k b from fun b hb => by rw [← hb]; exact (fillB_put hlt).symm)
          cases h1 : gb ins k with
          | false =>
            rw [h1] at hci
            have HX := Lib.hid (HP.out false (by unfold goalM; rw [h1]; rfl))
            clear h1
            go_wp2
            go_roundw
            case rel => exact ⟨k + 1, by omega, by go_num, by rw [HX.out]; exact HO.out.set_ (by rw [fillB_len]) _, hz.off (by show w1.heap.size ≠ w2.heap.size; omega) _, bx.far (by show w.heap.size ≠ w2.heap.size; omega) _, below_set (by show w.heap.size ≤ w2.heap.size; omega) hbr⟩
            case measure => simp [intOf]; omega
          | true =>
            rw [h1] at hci
            cases h2 : gi g.p k == tp with
            | false =>
              have HX := Lib.hid (HP.out false (by unfold goalM; rw [h1, h2]; rfl))
              clear h1
              go_wp2
              go_roundw
              case rel => exact ⟨k + 1, by omega, by go_num, by rw [HX.out]; exact HO.out.set_ (by rw [fillB_len]) _, hz.off (by show w1.heap.size ≠ w2.heap.size; omega) _, bx.far (by show w.heap.size ≠ w2.heap.size; omega) _, below_set (by show w.heap.size ≤ w2.heap.size; omega) hbr⟩
              case measure => simp [intOf]; omega
            | true =>
              have HX := Lib.hid (HP.out true (by unfold goalM; rw [h1, h2]; rfl))
              clear h1
              go_wp2
              go_roundw
              case rel => exact ⟨k + 1, by omega, by go_num, by rw [HX.out]; exact HO.out.set_ (by rw [fillB_len]) _, hz.off (by show w1.heap.size ≠ w2.heap.size; omega) _, bx.far (by show w.heap.size ≠ w2.heap.size; omega) _, below_set (by show w.heap.size ≤ w2.heap.size; omega) hbr⟩
              case measure => simp [intOf]; omega
        · obtain rfl : k = N := by omega
          obtain ⟨N, rfl⟩ : ∃ N : Nat, N = k := ⟨_, rfl⟩
          have q0 := bx.e0; have q2 := bx.e2; have q3 := bx.e3; have q4 := bx.e4
          generalize wr = v0 at *
          go_wp2_with fail
          refine (l7Attract _ _ _ _ _ g N _ _ _ _ ins (fillB (goalM g ins tp) N N) 1 _ _ (Nat.le_refl _) (har.keep (keeps_below hbr)) (hi.keep (keeps_below hbr)) ho.reads HF.out).mono ?_; rintro e v1 ⟨vA, A, rfl, hoA, hA, hb1⟩
          have hv1 := below_then hb1 hbr.size hbr
          have bx1 := bx.on hb1; have hz1 := hz.below hb1
          obtain ⟨AA, cA, hve⟩ := hoA.form
          rw [hA.1] at hve
          subst hve
          have HA := Lib.hid hA
          clear hA q0 q1 q2 q3 q4 bx hz ho hbr hb1
          go_wp2_with fail
          refine (l7Less _ _ _ _ N ins A _ _ (Nat.le_refl _) (hi.keep (keeps_below hv1)) hoA.reads hN2).mono ?_; rintro e v2 ⟨vR, rfl, hoR, hb2⟩
          have hv2 := below_then hb2 hv1.size hv1
          have bx2 := bx1.on hb2; have hz2 := hz1.below hb2
          obtain ⟨AR, cR, hve⟩ := hoR.form
          rw [show (lessM ins A N).length = N from fillB_len _ _ _] at hve
          subst hve
          have HC := Lib.hid (show cn N (gb (lessM ins A N)) < m by
            obtain ⟨v, hv, h1, h2⟩ := HTH.out
            obtain ⟨rk, hat⟩ := HA.out.2.2
            rw [HTP.out] at h2
            have h3 : gb A v = true := hat.goal v ⟨hv, h1⟩ (fillB_iff.2 ⟨hv, by unfold goalM; simp [h1, h2]⟩)
            have := less_cn hv h1 h3
            rw [HM.out] at this
            exact this)
          have hsz2 := hb2.size
          clear bx1 hz1 hoA hv1 hb2
          have q0 := bx2.e0; have q1 := bx2.e1; have q2 := bx2.e2; have q3 := bx2.e3; have q4 := bx2.e4
          go_wp2_with fail
          refine (IH.out _ HC.out _ _ _ _ _ g N _ _ (lessM ins A N) _ _ (Nat.le_refl _) (har.keep (keeps_below hv2)) hoR.reads HF.out rfl).mono ?_; rintro e v3 ⟨vL, low, rfl, hoL, hL, hb3⟩
          have hv3 := below_then hb3 hv2.size hv2
          have bx3 := bx2.on hb3; have hz3 := hz2.below hb3; have hoR3 := hoR.below hb3
          obtain ⟨AL, cL, hve⟩ := hoL.form
          rw [hL.1] at hve
          subst hve
          have HL := Lib.hid hL
          have hrR := hoR3.reads; have hrL := hoL.reads
          have hlz : v3.heap.size = v3.heap.size := rfl
          clear hL q0 q1 q2 q3 q4 bx2 hz2 hoR hv2 hb3 hlz
          have c1_ := hrR.cap; have c2_ := hrR.top; have c3_ := hrL.cap; have c4_ := hrL.top
          go_wp2_with (refine wpList_makeB rfl (.tmp 66) rfl _ N rfl (by omega) ?_; intro v4 ho4 hb4)
          go_loopw [13, 14] (fun s i wr => ∃ k : Nat, k ≤ N ∧ i = .int .i64 k ∧ s = .bool (anyB (lostF 1 (lessM ins A N) low) k) ∧ OB 4 wr v3.heap.size (.slice (some ⟨v3.heap.size, 0, none⟩) N N) (fillB (lostF 1 (lessM ins A N) low) N k) ∧ Below v3.heap.size v3 wr) (fun _ i _ => N - (intOf i).toNat)
          case atStart => exact ⟨0, Nat.zero_le _, rfl, rfl, by rw [fillB_zero]; exact ho4, hb4⟩
          case round =>
            clear ho4 hb4
            obtain ⟨k, hk, rfl, rfl, ho, hbr⟩ := hrel
            by_cases hlt : k < N
            · obtain ⟨br, orr, rfl, hcr⟩ := (hrR.keep (keeps_below hbr)).at_ hlt
              obtain ⟨bl, oll, rfl, hcl⟩ := (hrL.keep (keeps_below hbr)).at_ hlt
              have hki : (k : Int) < (N : Int) := by omega
              have hk0 : (0 : Int) ≤ (k : Int) := by omega
              have hcm := ho.at_ (i := k) (by rw [fillB_len]; exact hlt)
              have hfz := ho.hot (i := k) (by rw [fillB_len])
              have HO := Lib.hid ho
              clear ho
              have HP := Lib.hid (show ∀ b, (lostF 1 (lessM ins A N) low) k = b → fillB (lostF 1 (lessM ins A N) low) N (k + 1) = (fillB (lostF 1 (lessM ins A N) low) N k).set k b from fun b hb => by rw [← hb]; exact (fillB_put hlt).symm)
              have HQ := Lib.hid (show ∀ b, (lostF 1 (lessM ins A N) low) k = b → anyB (lostF 1 (lessM ins A N) low) (k + 1) = (anyB (lostF 1 (lessM ins A N) low) k || b) from fun b hb => by rw [← hb]; exact anyB_succ _ _)
              cases h1 : gb (lessM ins A N) k with
              | false =>
                rw [h1] at hcr
                have hb : (lostF 1 (lessM ins A N) low) k = false := by unfold lostF; rw [h1]; rfl
                have HX := Lib.hid (HP.out false hb); have HY := Lib.hid ((HQ.out false hb).trans (Bool.or_false _))
                clear h1 hb
                cases hs : anyB (lostF 1 (lessM ins A N) low) k with
                | true =>
                  have HZ := Lib.hid (HY.out.trans hs)
                  clear hs
                  go_wp2
                  go_roundw
                  case rel => exact ⟨k + 1, by omega, by go_num, by (rw [HZ.out]; first | done | rfl), by rw [HX.out]; exact HO.out.set_ (by rw [fillB_len]) _, below_set (by show v3.heap.size ≤ v3.heap.size; omega) hbr⟩
                  case measure => simp [intOf]; omega
                | false =>
                  have HZ := Lib.hid (HY.out.trans hs)
                  clear hs
                  go_wp2
                  go_roundw
                  case rel => exact ⟨k + 1, by omega, by go_num, by (rw [HZ.out]; first | done | rfl), by rw [HX.out]; exact HO.out.set_ (by rw [fillB_len]) _, below_set (by show v3.heap.size ≤ v3.heap.size; omega) hbr⟩
                  case measure => simp [intOf]; omega
              | true =>
                rw [h1] at hcr
                cases h2 : gb low k with
                | false =>
                  rw [h2] at hcl
                  have hb : (lostF 1 (lessM ins A N) low) k = false := by unfold lostF; rw [h1, h2]; rfl
                  have HX := Lib.hid (HP.out false hb); have HY := Lib.hid (HQ.out false hb)
                  clear h1 h2 hb
                  cases hs : anyB (lostF 1 (lessM ins A N) low) k with
                  | true =>
                    have HZ := Lib.hid (HY.out.trans (by rw [hs] : (anyB (lostF 1 (lessM ins A N) low) k || false) = (true || false)))
                    clear hs
                    go_wp2
                    go_roundw
                    case rel => exact ⟨k + 1, by omega, by go_num, by (rw [HZ.out]; first | done | rfl), by rw [HX.out]; exact HO.out.set_ (by rw [fillB_len]) _, below_set (by show v3.heap.size ≤ v3.heap.size; omega) hbr⟩
                    case measure => simp [intOf]; omega
                  | false =>
                    have HZ := Lib.hid (HY.out.trans (by rw [hs] : (anyB (lostF 1 (lessM ins A N) low) k || false) = (false || false)))
                    clear hs
                    go_wp2
                    go_roundw
                    case rel => exact ⟨k + 1, by omega, by go_num, by (rw [HZ.out]; first | done | rfl), by rw [HX.out]; exact HO.out.set_ (by rw [fillB_len]) _, below_set (by show v3.heap.size ≤ v3.heap.size; omega) hbr⟩
                    case measure => simp [intOf]; omega
                | true =>
                  rw [h2] at hcl
                  have hb : (lostF 1 (lessM ins A N) low) k = true := by unfold lostF; rw [h1, h2]; rfl
                  have HX := Lib.hid (HP.out true hb); have HY := Lib.hid (HQ.out true hb)
                  clear h1 h2 hb
                  cases hs : anyB (lostF 1 (lessM ins A N) low) k with
                  | true =>
                    have HZ := Lib.hid (HY.out.trans (by rw [hs] : (anyB (lostF 1 (lessM ins A N) low) k || true) = (true || true)))
                    clear hs
                    go_wp2
                    go_roundw
                    case rel => exact ⟨k + 1, by omega, by go_num, by (rw [HZ.out]; first | done | rfl), by rw [HX.out]; exact HO.out.set_ (by rw [fillB_len]) _, below_set (by show v3.heap.size ≤ v3.heap.size; omega) hbr⟩
                    case measure => simp [intOf]; omega
                  | false =>
                    have HZ := Lib.hid (HY.out.trans (by rw [hs] : (anyB (lostF 1 (lessM ins A N) low) k || true) = (false || true)))
                    clear hs
                    go_wp2
                    go_roundw
                    case rel => exact ⟨k + 1, by omega, by go_num, by (rw [HZ.out]; first | done | rfl), by rw [HX.out]; exact HO.out.set_ (by rw [fillB_len]) _, below_set (by show v3.heap.size ≤ v3.heap.size; omega) hbr⟩
                    case measure => simp [intOf]; omega
            · obtain rfl : k = N := by omega
              obtain ⟨N, rfl⟩ : ∃ N : Nat, N = k := ⟨_, rfl⟩
              have hz4 := hz3.below hbr
              have hv4 := below_then hbr hv3.size hv3
              have bx4 := bx3.on hbr
              generalize wr = v5 at *
              have hwz5 : w1.heap.size < v5.heap.size := (hz4.lt _ rfl).2
              cases hsome : anyB (lostF 1 (lessM ins A N) low) N with
              | false =>
                have HR := Lib.hid (show WinRes g N ins (fillB (fun v => gb ins v && ((1 : Int) == 0)) N N) by
                  obtain ⟨rk, hat⟩ := HA.out.2.2
                  exact win_all HF.out (by omega) HW.out (by rw [HTP.out]; exact hat) HL.out hsome)
                clear hsome
                go_wp2
                go_loopw [15] (fun i wr => ∃ k : Nat, k ≤ N ∧ i = .int .i64 k ∧ OB 4 wr w1.heap.size (.slice (some ⟨w1.heap.size, 0, none⟩) N N) (fillB (fun v => gb ins v && ((1 : Int) == 0)) N k) ∧ Below w.heap.size w wr) (fun i _ => N - (intOf i).toNat)
                case atStart => exact ⟨0, Nat.zero_le _, rfl, by rw [fillB_zero]; exact hz4, hv4⟩
                case round =>
                  clear hz4 hv4 bx4
                  obtain ⟨k, hk, rfl, ho, hbr⟩ := hrel
                  by_cases hlt : k < N
                  · obtain ⟨bi, oi, rfl, hci⟩ := (hi.keep (keeps_below hbr)).at_ hlt
                    have hki : (k : Int) < (N : Int) := by omega
                    have hk0 : (0 : Int) ≤ (k : Int) := by omega
                    have hcm := ho.at_ (i := k) (by rw [fillB_len]; exact hlt)
                    have hfz := ho.hot (i := k) (by rw [fillB_len])
                    have HO := Lib.hid ho
                    clear ho
                    have HP := Lib.hid (show ∀ b, (gb ins k && ((1 : Int) == 0)) = b → fillB (fun v => gb ins v && ((1 : Int) == 0)) N (k + 1) = (fillB (fun v => gb ins v && ((1 : Int) == 0)) N k).set k b from fun b hb => by rw [← hb]; exact (fillB_put hlt).symm)
                    cases h1 : gb ins k with
                    | false =>
                      rw [h1] at hci
                      have HX := Lib.hid (HP.out false (by rw [h1]; rfl))
                      clear h1
                      go_wp2
                      go_roundw
                      case rel => exact ⟨k + 1, by omega, by go_num, by rw [HX.out]; exact HO.out.set_ (by rw [fillB_len]) _, below_set (by show w.heap.size ≤ w1.heap.size; omega) hbr⟩
                      case measure => simp [intOf]; omega
                    | true =>
                      rw [h1] at hci
                      have HX := Lib.hid (HP.out false (by rw [h1]; rfl))
                      clear h1
                      go_wp2
                      go_roundw
                      case rel => exact ⟨k + 1, by omega, by go_num, by rw [HX.out]; exact HO.out.set_ (by rw [fillB_len]) _, below_set (by show w.heap.size ≤ w1.heap.size; omega) hbr⟩
                      case measure => simp [intOf]; omega
                  · obtain rfl : k = N := by omega
                    go_wp2
                    go_ret
                    exact ⟨_, _, rfl, ho.more (by omega), HR.out, hbr.mono hB⟩
              | true =>
                have HS := Lib.hid hsome
                clear hsome
                have q0 := bx4.e0; have q1 := bx4.e1; have q2 := bx4.e2; have q3 := bx4.e3; have q4 := bx4.e4
                go_wp2_with fail
                refine (l7Attract _ _ _ _ _ g N _ _ _ _ ins (fillB (lostF 1 (lessM ins A N) low) N N) 0 _ _ (Nat.le_refl _) (har.keep (keeps_below hv4)) (hi.keep (keeps_below hv4)) ho.reads HF.out).mono ?_; rintro e v6 ⟨vW, away, rfl, hoW, hW6, hb6⟩
                have hv6 := below_then hb6 hv4.size hv4
                have bx6 := bx4.on hb6; have hz6 := hz4.below hb6
                obtain ⟨AW, cW, hve⟩ := hoW.form
                rw [hW6.1] at hve
                subst hve
                have HWY := Lib.hid hW6
                have HC2 := Lib.hid (show cn N (gb (lessM ins away N)) < m by
                  obtain ⟨v, hv, h1⟩ := anyB_yes HS.out
                  obtain ⟨rk, hat⟩ := hW6.2.2
                  have h2 : gb (lessM ins A N) v = true := by unfold lostF at h1; simp at h1; exact h1.1
                  have h3 := (lessM_iff.1 h2).2.1
                  have h4 : gb away v = true := hat.goal v ⟨hv, h3⟩ (fillB_iff.2 ⟨hv, h1⟩)
                  have := less_cn hv h3 h4
                  rw [HM.out] at this
                  exact this)
                clear hW6 q0 q1 q2 q3 q4 bx4 hz4 ho hv4 hb6
                have q0 := bx6.e0; have q1 := bx6.e1; have q2 := bx6.e2; have q3 := bx6.e3; have q4 := bx6.e4
                go_wp2_with fail
                refine wp_region_held_drew (S := (fun w' => w'.cell? ⟨w.heap.size, 0, none⟩ = some (.slice A0 n0 c0) ∧ w'.cell? ⟨w.heap.size, 1, none⟩ = some (.slice A1 n1 c1) ∧ w'.cell? ⟨w.heap.size, 2, none⟩ = some (.slice A2 n2 c2) ∧ w'.cell? ⟨w.heap.size, 3, none⟩ = some (.slice A3 n3 c3) ∧ w'.cell? ⟨w.heap.size, 4, none⟩ = some (.slice A4 n4 c4))) (by kernel_rfl) ⟨q0, q1, q2, q3, q4⟩ (fun hHeld => ?_)
                replace hv6 := Below.drew hv6
                replace bx6 : Box v6.drew w.heap.size 76 #[.slice A0 n0 c0, .slice A1 n1 c1, .slice A2 n2 c2, .slice A3 n3 c3, .slice A4 n4 c4] := bx6
                replace hz6 : OB 4 v6.drew w1.heap.size (.slice (some ⟨w1.heap.size, 0, none⟩) N N) (List.replicate N false) := hz6
                replace hoW : OB 4 v6.drew v5.heap.size (.slice AW N cW) away := hoW
                clear q0 q1 q2 q3 q4
                generalize v6.drew = v7 at *
                refine takeH0 (v := ?_) (by kernel_rfl) (by kernel_rfl) (by kernel_rfl) (fun _ _ _ h => h) hHeld (by rfl) ?_ ?_
                rotate_left; · (intro w hSw; (try dsimp only at hSw); go_simp; try with_reducible rfl)
                try simp only [Act.put, List.setIfInBounds_toArray, List.set_cons_zero, List.set_cons_succ]
                refine takeH1 (v := ?_) (by kernel_rfl) (by kernel_rfl) (by kernel_rfl) (fun _ _ _ h => h) hHeld (by rfl) ?_ ?_
                rotate_left; · (intro w hSw; (try dsimp only at hSw); go_simp; try with_reducible rfl)
                try simp only [Act.put, List.setIfInBounds_toArray, List.set_cons_zero, List.set_cons_succ]
                refine takeH2 (v := ?_) (by kernel_rfl) (by kernel_rfl) (by kernel_rfl) (fun _ _ _ h => h) hHeld (by rfl) ?_ ?_
                rotate_left; · (intro w hSw; (try dsimp only at hSw); go_simp; try with_reducible rfl)
                try simp only [Act.put, List.setIfInBounds_toArray, List.set_cons_zero, List.set_cons_succ]
                refine callH3 (by kernel_rfl) (fun K hK => ?_)
                go_simp
                go_at_call 81
                refine (l7Less _ _ _ _ N ins away _ _ (Nat.le_refl _) (hi.keep (keeps_below hv6)) hoW.reads hN2).mono ?_; rintro e v8 ⟨vB, rfl, hoB, hb8⟩
                have hv8 := below_then hb8 hv6.size hv6
                have bxN := bx6.on hb8; have hz8 := hz6.below hb8; have hrW8 := hoW.reads.keep (keeps_below hb8)
                obtain ⟨AB, cB, hve⟩ := hoB.form
                rw [show (lessM ins away N).length = N from fillB_len _ _ _] at hve
                subst hve
                clear bx6 hz6 hv6
                have q0 := bxN.e0; have q1 := bxN.e1; have q2 := bxN.e2; have q3 := bxN.e3; have q4 := bxN.e4
                go_wp2_with fail
                refine hK.out _ _ (⟨q0, q1, q2, q3, q4⟩) (fun hHeld => ?_)
                clear hK K
                try simp only [Act.put, List.setIfInBounds_toArray, List.set_cons_zero, List.set_cons_succ]
                refine callH4 (by kernel_rfl) (fun K hK => ?_)
                go_simp
                go_at_call 73
                refine (IH.out _ HC2.out _ _ _ _ _ g N _ _ (lessM ins away N) _ _ (Nat.le_refl _) (har.keep (keeps_below hv8)) hoB.reads HF.out rfl).mono ?_; rintro e v9 ⟨vG, again, rfl, hoG, hG, hb9⟩
                have hvG := below_then hb9 hv8.size hv8
                have bxM := bxN.on hb9; have hzG := hz8.below hb9; have hrW := hrW8.keep (keeps_below hb9)
                obtain ⟨AG, cG, hve⟩ := hoG.form
                rw [hG.1] at hve
                subst hve
                have HG := Lib.hid hG
                have hrG := hoG.reads
                have hnG : ∀ b off, AG = some ⟨b, off, none⟩ → b ≠ w1.heap.size := fun b off e => by subst e; have h4 : v8.heap.size ≤ b := (hoG.lt b rfl).1; have h5 : w1.heap.size < v8.heap.size := (hz8.lt _ rfl).2; omega
                have hnW : ∀ b off, AW = some ⟨b, off, none⟩ → b ≠ w1.heap.size := fun b off e => by subst e; have := (hoW.lt b rfl).1; omega
                have g1_ := hrG.cap; have g2_ := hrG.top; have g3_ := hrW.cap; have g4_ := hrW.top
                clear hG hoG q0 q1 q2 q3 q4 bxN hz8 hrW8 hoB hv8
                have q0 := bxM.e0; have q1 := bxM.e1; have q2 := bxM.e2; have q3 := bxM.e3; have q4 := bxM.e4
                go_wp2_with fail
                refine hK.out _ _ (⟨q0, q1, q2, q3, q4⟩) (fun hHeld => ?_)
                clear hK K
                try simp only [Act.put, List.setIfInBounds_toArray, List.set_cons_zero, List.set_cons_succ]
                refine takeH5 (v := ?_) (by kernel_rfl) (by kernel_rfl) (by kernel_rfl) (fun _ _ _ h => h) hHeld (by rfl) ?_ ?_
                rotate_left; · (intro w hSw; (try dsimp only at hSw); go_simp; try with_reducible rfl)
                try simp only [Act.put, List.setIfInBounds_toArray, List.set_cons_zero, List.set_cons_succ]
                refine wpAnyH_done (by kernel_rfl) ?_ _
                have HRES := Lib.hid (show WinRes g N ins (fillB (fun v => gb again v || (gb away v && ((1 : Int) == 1))) N N) by
                  obtain ⟨rk, hat⟩ := HA.out.2.2
                  obtain ⟨rk2, hat2⟩ := HWY.out.2.2
                  exact win_some HF.out (by omega) hat HL.out hat2 HG.out)
                go_wp2
                go_loopw [18] (fun i wr => ∃ k : Nat, k ≤ N ∧ i = .int .i64 k ∧ OB 4 wr w1.heap.size (.slice (some ⟨w1.heap.size, 0, none⟩) N N) (fillB (fun v => gb again v || (gb away v && ((1 : Int) == 1))) N k) ∧ (RB wr AG N cG again ∧ ∀ b off, AG = some ⟨b, off, none⟩ → b ≠ w1.heap.size) ∧ (RB wr AW N cW away ∧ ∀ b off, AW = some ⟨b, off, none⟩ → b ≠ w1.heap.size) ∧ Below w.heap.size w wr) (fun i _ => N - (intOf i).toNat)
                case atStart => exact ⟨0, Nat.zero_le _, rfl, by rw [fillB_zero]; exact hzG, ⟨hrG, hnG⟩, ⟨hrW, hnW⟩, hvG⟩
                case round =>
                  clear hzG hrG hrW hvG hnG hnW
                  obtain ⟨k, hk, rfl, ho, ⟨hrG, hnG⟩, ⟨hrW, hnW⟩, hbr⟩ := hrel
                  by_cases hlt : k < N
                  · obtain ⟨bg, og, rfl, hcg⟩ := hrG.at_ hlt
                    obtain ⟨ba, oa, rfl, hca⟩ := hrW.at_ hlt
                    have hbg := hnG _ _ rfl
                    have hba2 := hnW _ _ rfl
                    have hki : (k : Int) < (N : Int) := by omega
                    have hk0 : (0 : Int) ≤ (k : Int) := by omega
                    have hcm := ho.at_ (i := k) (by rw [fillB_len]; exact hlt)
                    have hfz := ho.hot (i := k) (by rw [fillB_len])
                    have HO := Lib.hid ho
                    clear ho
                    have HP := Lib.hid (show ∀ b, (gb again k || (gb away k && ((1 : Int) == 1))) = b → fillB (fun v => gb again v || (gb away v && ((1 : Int) == 1))) N (k + 1) = (fillB (fun v => gb again v || (gb away v && ((1 : Int) == 1))) N k).set k b from fun b hb => by rw [← hb]; exact (fillB_put hlt).symm)
                    cases h1 : gb again k with
                    | true =>
                      rw [h1] at hcg
                      have HX := Lib.hid (HP.out true (by rw [h1]; rfl))
                      clear h1
                      go_wp2
                      go_roundw
                      case rel => exact ⟨k + 1, by omega, by go_num, by rw [HX.out]; exact HO.out.set_ (by rw [fillB_len]) _, ⟨hrG.offB hbg _, hnG⟩, ⟨hrW.offB hba2 _, hnW⟩, below_set (by show w.heap.size ≤ w1.heap.size; omega) hbr⟩
                      case measure => simp [intOf]; omega
                    | false =>
                      rw [h1] at hcg
                      cases h2 : gb away k with
                      | false =>
                        rw [h2] at hca
                        have HX := Lib.hid (HP.out false (by rw [h1, h2]; rfl))
                        clear h1 h2
                        go_wp2
                        go_roundw
                        case rel => exact ⟨k + 1, by omega, by go_num, by rw [HX.out]; exact HO.out.set_ (by rw [fillB_len]) _, ⟨hrG.offB hbg _, hnG⟩, ⟨hrW.offB hba2 _, hnW⟩, below_set (by show w.heap.size ≤ w1.heap.size; omega) hbr⟩
                        case measure => simp [intOf]; omega
                      | true =>
                        rw [h2] at hca
                        have HX := Lib.hid (HP.out true (by rw [h1, h2]; rfl))
                        clear h1 h2
                        go_wp2
                        go_roundw
                        case rel => exact ⟨k + 1, by omega, by go_num, by rw [HX.out]; exact HO.out.set_ (by rw [fillB_len]) _, ⟨hrG.offB hbg _, hnG⟩, ⟨hrW.offB hba2 _, hnW⟩, below_set (by show w.heap.size ≤ w1.heap.size; omega) hbr⟩
                        case measure => simp [intOf]; omega
                  · obtain rfl : k = N := by omega
                    go_wp2
                    go_ret
                    exact ⟨_, _, rfl, ho.more (by omega), HRES.out, hbr.mono hB⟩

end Go.Proofs.Ytblmcmccdeelgaa
