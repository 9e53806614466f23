/- Parity games, in plain words: dominions, attractors, and the three steps of the recursive way to solve them. No function of the program is named here. -/
import Derived.Test.YtlmhhnplacejkaaLib
namespace Go.Proofs.Ytlmhhnplacejkaa

/-- a game: owners, who goes to whom, priorities -/
structure PG where
  own : Nat → Int
  E : Nat → Nat → Prop
  pr : Nat → Int

def PathIn (G : PG) (X : Nat → Prop) (f : Nat → Nat) : Prop := ∀ k, X (f k) ∧ G.E (f k) (f (k + 1))
def Lim (pr : Nat → Int) (f : Nat → Nat) (q : Int) : Prop := (∀ n, ∃ m, n ≤ m ∧ pr (f m) = q) ∧ ∃ n, ∀ m, n ≤ m → pr (f m) ≤ q
def Follows (G : PG) (i : Int) (s : Nat → Nat) (f : Nat → Nat) : Prop := ∀ k, G.own (f k) = i → f (k + 1) = s (f k)
/-- within I, player i wins all of X by s, and need not leave it -/
structure WinsIn (G : PG) (I : Nat → Prop) (i : Int) (X : Nat → Prop) (s : Nat → Nat) : Prop where
  sub : ∀ v, X v → I v
  mine : ∀ v, X v → G.own v = i → G.E v (s v) ∧ X (s v)
  yours : ∀ v u, X v → G.own v ≠ i → G.E v u → I u → X u
  lim : ∀ f q, PathIn G X f → Follows G i s f → Lim G.pr f q → q % 2 = i
/-- within I, player i brings all of A (and no other) to T -/
structure AttrIn (G : PG) (I : Nat → Prop) (i : Int) (T A : Nat → Prop) (rk : Nat → Nat) : Prop where
  sub : ∀ v, A v → I v
  goal : ∀ v, I v → T v → A v
  mine : ∀ v, A v → ¬ T v → G.own v = i → ∃ u, G.E v u ∧ A u ∧ rk u < rk v
  yours : ∀ v u, A v → ¬ T v → G.own v ≠ i → G.E v u → I u → A u ∧ rk u < rk v
  outm : ∀ v u, I v → ¬ A v → G.own v = i → G.E v u → I u → ¬ A u
  outy : ∀ v, I v → ¬ A v → G.own v ≠ i → (∃ u, G.E v u ∧ I u) → ∃ u, G.E v u ∧ I u ∧ ¬ A u

theorem Lim.shift {pr : Nat → Int} {f : Nat → Nat} {q : Int} (h : Lim pr f q) (n : Nat) : Lim pr (fun k => f (k + n)) q := by
  obtain ⟨h1, m0, h2⟩ := h
  refine ⟨fun k => ?_, m0, fun m hm => h2 _ (by omega)⟩
  obtain ⟨m, hm, e⟩ := h1 (k + n)
  refine ⟨m - n, by omega, ?_⟩
  show pr (f (m - n + n)) = q
  rw [show m - n + n = m by omega]
  exact e
theorem Lim.unshift {pr : Nat → Int} {f : Nat → Nat} {q : Int} {n : Nat} (h : Lim pr (fun k => f (k + n)) q) : Lim pr f q := by
  obtain ⟨h1, m0, h2⟩ := h
  refine ⟨fun k => ?_, m0 + n, fun m hm => ?_⟩
  · obtain ⟨m, hm, e⟩ := h1 k
    exact ⟨m + n, by omega, e⟩
  · have := h2 (m - n) (by omega)
    simp only [show m - n + n = m by omega] at this
    exact this
theorem lim_exists (pr : Nat → Int) : ∀ (M : Nat) (f : Nat → Nat), (∀ k, 0 ≤ pr (f k) ∧ pr (f k) ≤ M) → ∃ q, Lim pr f q
  | 0, f, h => ⟨0, fun n => ⟨n, Nat.le_refl _, by have := h n; omega⟩, 0, fun m _ => by have := h m; omega⟩
  | M + 1, f, h => by
    by_cases hi : ∀ n, ∃ m, n ≤ m ∧ pr (f m) = ((M + 1 : Nat) : Int)
    · exact ⟨_, hi, 0, fun m _ => (h m).2⟩
    · obtain ⟨n, hn⟩ := Classical.not_forall.1 hi
      have hlow : ∀ k, 0 ≤ pr (f (k + n)) ∧ pr (f (k + n)) ≤ M := fun k => by
        have h1 := h (k + n)
        have h2 : ¬ pr (f (k + n)) = ((M + 1 : Nat) : Int) := fun e => hn ⟨k + n, by omega, e⟩
        omega
      obtain ⟨q, hq⟩ := lim_exists pr M (fun k => f (k + n)) hlow
      exact ⟨q, hq.unshift⟩

/-- what both win: nothing -/
theorem wins_apart {G : PG} {I X Y : Nat → Prop} {s t : Nat → Nat} {M : Nat} (hX : WinsIn G I 0 X s) (hY : WinsIn G I 1 Y t)
    (ho : ∀ v, I v → G.own v = 0 ∨ G.own v = 1) (hp : ∀ v, I v → 0 ≤ G.pr v ∧ G.pr v ≤ M) {v : Nat} (h1 : X v) (h2 : Y v) : False := by
  have key : ∃ f : Nat → Nat, f 0 = v ∧ ∀ k, (G.own (f k) = 0 → f (k + 1) = s (f k)) ∧ (G.own (f k) ≠ 0 → f (k + 1) = t (f k)) := by
    refine ⟨fun k => Nat.rec v (fun _ x => if G.own x = 0 then s x else t x) k, rfl, fun k => ⟨fun h => ?_, fun h => ?_⟩⟩
    · show (if G.own _ = 0 then _ else _) = _
      rw [if_pos h]
    · show (if G.own _ = 0 then _ else _) = _
      rw [if_neg h]
  obtain ⟨f, h0, hf⟩ := key
  have hin : ∀ k, X (f k) ∧ Y (f k) ∧ G.E (f k) (f (k + 1)) := by
    have step : ∀ k, X (f k) → Y (f k) → X (f (k + 1)) ∧ Y (f (k + 1)) ∧ G.E (f k) (f (k + 1)) := fun k hx hy => by
      by_cases h : G.own (f k) = 0
      · rw [(hf k).1 h]
        obtain ⟨e, hxs⟩ := hX.mine _ hx h
        exact ⟨hxs, hY.yours _ _ hy (by omega) e (hX.sub _ hxs), e⟩
      · rw [(hf k).2 h]
        have h' : G.own (f k) = 1 := by have := ho _ (hX.sub _ hx); omega
        obtain ⟨e, hys⟩ := hY.mine _ hy h'
        exact ⟨hX.yours _ _ hx h e (hY.sub _ hys), hys, e⟩
    have all : ∀ k, X (f k) ∧ Y (f k) := fun k => by
      induction k with
      | zero => rw [h0]; exact ⟨h1, h2⟩
      | succ k ih => exact ⟨(step k ih.1 ih.2).1, (step k ih.1 ih.2).2.1⟩
    exact fun k => ⟨(all k).1, (all k).2, (step k (all k).1 (all k).2).2.2⟩
  obtain ⟨q, hq⟩ := lim_exists G.pr M f (fun k => hp _ (hX.sub _ (hin k).1))
  have e0 := hX.lim f q (fun k => ⟨(hin k).1, (hin k).2.2⟩) (fun k h => (hf k).1 h) hq
  have e1 := hY.lim f q (fun k => ⟨(hin k).2.1, (hin k).2.2⟩) (fun k h => (hf k).2 (by omega)) hq
  omega

/-- the top priority's player wins all, if he wins all that he cannot bring to the top -/
theorem ziel_all {G : PG} {I A : Nat → Prop} {i p : Int} {rk s' : Nat → Nat} (ht : ∀ v, I v → ∃ u, G.E v u ∧ I u)
    (hp : ∀ v, I v → G.pr v ≤ p) (hi : p % 2 = i) (hA : AttrIn G I i (fun v => G.pr v = p) A rk) (hR : WinsIn G (fun v => I v ∧ ¬ A v) i (fun v => I v ∧ ¬ A v) s') : ∃ s, WinsIn G I i I s := by
  have key : ∀ v, ∃ u, I v → G.own v = i → G.E v u ∧ I u ∧ (A v → G.pr v ≠ p → A u ∧ rk u < rk v) ∧ (¬ A v → u = s' v) := by
    intro v
    by_cases hv : I v
    · by_cases ho : G.own v = i
      · by_cases ha : A v
        · by_cases hpv : G.pr v = p
          · obtain ⟨u, e, hu⟩ := ht v hv
            exact ⟨u, fun _ _ => ⟨e, hu, fun _ h => absurd hpv h, fun h => absurd ha h⟩⟩
          · obtain ⟨u, e, hu, hr⟩ := hA.mine v ha hpv ho
            exact ⟨u, fun _ _ => ⟨e, hA.sub _ hu, fun _ _ => ⟨hu, hr⟩, fun h => absurd ha h⟩⟩
        · obtain ⟨e, hu⟩ := hR.mine v ⟨hv, ha⟩ ho
          exact ⟨s' v, fun _ _ => ⟨e, hu.1, fun h => absurd h ha, fun _ => rfl⟩⟩
      · exact ⟨0, fun _ h => absurd h ho⟩
    · exact ⟨0, fun h => absurd h hv⟩
  obtain ⟨s, hs⟩ := Classical.skolem.1 key
  refine ⟨s, fun v h => h, fun v hv ho => ⟨(hs v hv ho).1, (hs v hv ho).2.1⟩, fun v u _ _ _ h => h, fun f q hf hfo hq => ?_⟩
  by_cases e : q = p
  · rw [e]; exact hi
  · obtain ⟨n0, h0⟩ := hq.2
    have hqp : q < p := by
      obtain ⟨m, _, hm⟩ := hq.1 0
      have := hp _ (hf m).1
      omega
    have hno : ∀ r m, rk (f m) = r → n0 ≤ m → ¬ A (f m) := by
      intro r
      induction r using Nat.strongRecOn with
      | _ r ih =>
        intro m hr hm ha
        have hne : G.pr (f m) ≠ p := by have := h0 m hm; omega
        have hnx : A (f (m + 1)) ∧ rk (f (m + 1)) < rk (f m) := by
          by_cases ho : G.own (f m) = i
          · rw [hfo m ho]
            exact (hs _ (hf m).1 ho).2.2.1 ha hne
          · exact hA.yours _ _ ha hne ho (hf m).2 (hf (m + 1)).1
        exact ih _ (by omega) (m + 1) rfl (by omega) hnx.1
    refine hR.lim (fun k => f (k + n0)) q (fun k => ⟨⟨(hf _).1, hno _ _ rfl (by omega)⟩, ?_⟩) (fun k ho => ?_) (hq.shift n0)
    · show G.E (f (k + n0)) (f (k + 1 + n0))
      rw [show k + 1 + n0 = k + n0 + 1 by omega]
      exact (hf (k + n0)).2
    · show f (k + 1 + n0) = _
      rw [show k + 1 + n0 = k + n0 + 1 by omega, hfo _ ho]
      exact (hs _ (hf _).1 ho).2.2.2 (hno _ _ rfl (by omega))

/-- what i wins outside of what the other one brings to his own, i wins -/
theorem ziel_mine {G : PG} {I L B Y : Nat → Prop} {i j : Int} {rk s : Nat → Nat} (ho : ∀ v, I v → G.own v = i ∨ G.own v = j) (hB : AttrIn G I j L B rk) (hY : WinsIn G (fun v => I v ∧ ¬ B v) i Y s) : WinsIn G I i Y s :=
  ⟨fun v h => (hY.sub v h).1, hY.mine, fun v u hv hne e hu => by
    have h1 := hY.sub v hv
    have hj : G.own v = j := (ho v h1.1).resolve_left hne
    exact hY.yours v u hv hne e ⟨hu, hB.outm v u h1.1 h1.2 hj e hu⟩, hY.lim⟩

/-- the other one wins what he wins of the rest, all that he brings to it, and what he wins outside of that -/
theorem ziel_yours {G : PG} {I T A L B Y : Nat → Prop} {i j : Int} {rk rk' sL sY : Nat → Nat} (hij : i ≠ j) (ho : ∀ v, I v → G.own v = i ∨ G.own v = j) (hA : AttrIn G I i T A rk)
    (hL : WinsIn G (fun v => I v ∧ ¬ A v) j L sL) (hB : AttrIn G I j L B rk') (hY : WinsIn G (fun v => I v ∧ ¬ B v) j Y sY) : ∃ s, WinsIn G I j (fun v => B v ∨ Y v) s := by
  have hLB : ∀ v, L v → B v := fun v h => hB.goal v (hL.sub v h).1 h
  have key : ∀ v, ∃ u, B v ∨ Y v → G.own v = j → G.E v u ∧ (B u ∨ Y u) ∧ (L v → u = sL v) ∧ (B v → ¬ L v → B u ∧ rk' u < rk' v) ∧ (¬ B v → u = sY v) := by
    intro v
    by_cases hX : B v ∨ Y v
    · by_cases hov : G.own v = j
      · by_cases hl : L v
        · obtain ⟨e, hu⟩ := hL.mine v hl hov
          exact ⟨sL v, fun _ _ => ⟨e, .inl (hLB _ hu), fun _ => rfl, fun _ h => absurd hl h, fun h => absurd (hLB v hl) h⟩⟩
        · by_cases hb : B v
          · obtain ⟨u, e, hu, hr⟩ := hB.mine v hb hl hov
            exact ⟨u, fun _ _ => ⟨e, .inl hu, fun h => absurd h hl, fun _ _ => ⟨hu, hr⟩, fun h => absurd hb h⟩⟩
          · obtain ⟨e, hu⟩ := hY.mine v (hX.resolve_left hb) hov
            exact ⟨sY v, fun _ _ => ⟨e, .inr hu, fun h => absurd h hl, fun h => absurd h hb, fun _ => rfl⟩⟩
      · exact ⟨0, fun _ h => absurd h hov⟩
    · exact ⟨0, fun h => absurd h hX⟩
  obtain ⟨s, hs⟩ := Classical.skolem.1 key
  have hI : ∀ v, B v ∨ Y v → I v := fun v h => h.elim (hB.sub v) (fun h => (hY.sub v h).1)
  have hLstep : ∀ v u, L v → G.E v u → I u → (G.own v = j → u = s v) → L u := fun v u hl e hu hf => by
    by_cases hov : G.own v = j
    · rw [hf hov, (hs v (.inl (hLB v hl)) hov).2.2.1 hl]
      exact (hL.mine v hl hov).2
    · have h1 := hL.sub v hl
      have hi : G.own v = i := (ho v h1.1).resolve_right hov
      exact hL.yours v u hl hov e ⟨hu, hA.outm v u h1.1 h1.2 hi e hu⟩
  refine ⟨s, hI, fun v hv hov => ⟨(hs v hv hov).1, (hs v hv hov).2.1⟩, fun v u hv hov e hu => ?_, fun f q hf hfo hq => ?_⟩
  · by_cases hl : L v
    · exact .inl (hLB u (hLstep v u hl e hu (fun h => absurd h hov)))
    · by_cases hb : B v
      · exact .inl (hB.yours v u hb hl hov e hu).1
      · by_cases hbu : B u
        · exact .inl hbu
        · exact .inr (hY.yours v u (hv.resolve_left hb) hov e ⟨hu, hbu⟩)
  · have shiftE : ∀ n k, f (k + 1 + n) = f (k + n + 1) := fun n k => by rw [show k + 1 + n = k + n + 1 by omega]
    by_cases hex : ∃ m, B (f m)
    · have hL' : ∀ r m, rk' (f m) = r → B (f m) → ∃ m, L (f m) := by
        intro r
        induction r using Nat.strongRecOn with
        | _ r ih =>
          intro m hr hb
          by_cases hl : L (f m)
          · exact ⟨m, hl⟩
          · have hnx : B (f (m + 1)) ∧ rk' (f (m + 1)) < rk' (f m) := by
              by_cases hov : G.own (f m) = j
              · rw [hfo m hov]
                exact (hs _ (hf m).1 hov).2.2.2.1 hb hl
              · exact hB.yours _ _ hb hl hov (hf m).2 (hI _ (hf (m + 1)).1)
            exact ih _ (by omega) (m + 1) rfl hnx.1
      obtain ⟨m0, hm0⟩ := hex
      obtain ⟨n, hn⟩ := hL' _ m0 rfl hm0
      have hall : ∀ k, L (f (k + n)) := fun k => by
        induction k with
        | zero => rw [Nat.zero_add]; exact hn
        | succ k ih =>
          rw [shiftE]
          exact hLstep _ _ ih (hf _).2 (hI _ (hf _).1) (fun h => hfo _ h)
      refine hL.lim (fun k => f (k + n)) q (fun k => ⟨hall k, ?_⟩) (fun k hov => ?_) (hq.shift n)
      · show G.E (f (k + n)) (f (k + 1 + n))
        rw [shiftE]; exact (hf (k + n)).2
      · show f (k + 1 + n) = _
        rw [shiftE, hfo _ hov]
        exact (hs _ (hf _).1 hov).2.2.1 (hall k)
    · have hnb : ∀ k, ¬ B (f k) := fun k h => hex ⟨k, h⟩
      refine hY.lim f q (fun k => ⟨((hf k).1).resolve_left (hnb k), (hf k).2⟩) (fun k hov => ?_) hq
      rw [hfo k hov]
      exact (hs _ (hf k).1 hov).2.2.2.2 (hnb k)
end Go.Proofs.Ytlmhhnplacejkaa
