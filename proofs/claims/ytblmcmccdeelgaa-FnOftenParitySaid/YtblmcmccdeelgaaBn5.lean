/- Texts that the proof reaches: Ziel, RestP. -/
import Derived.Test.YtblmcmccdeelgaaBn4
namespace Go.Proofs.Ytblmcmccdeelgaa

/-- a game: owners, who goes to whom, priorities -/
structure PG where
  own : Nat → Int
  E : Nat → Nat → Prop
  pr : Nat → Int

def PathIn (G : PG) (X : Nat → Prop) (f : Nat → Nat) : Prop := ∀ k, X (f k) ∧ G.E (f k) (f (k + 1))
def Lim (pr : Nat → Int) (f : Nat → Nat) (q : Int) : Prop := (∀ n, ∃ m, n ≤ m ∧ pr (f m) = q) ∧ ∃ n, ∀ m, n ≤ m → pr (f m) ≤ q
def Follows (G : PG) (i : Int) (s : Nat → Nat) (f : Nat → Nat) : Prop := ∀ k, G.own (f k) = i → f (k + 1) = s (f k)
/-- within I, player i wins all of X by s, and need not leave it -/
structure WinsIn (G : PG) (I : Nat → Prop) (i : Int) (X : Nat → Prop) (s : Nat → Nat) : Prop where
  sub : ∀ v, X v → I v
  mine : ∀ v, X v → G.own v = i → G.E v (s v) ∧ X (s v)
  yours : ∀ v u, X v → G.own v ≠ i → G.E v u → I u → X u
  lim : ∀ f q, PathIn G X f → Follows G i s f → Lim G.pr f q → q % 2 = i
/-- within I, player i brings all of A (and no other) to T -/
structure AttrIn (G : PG) (I : Nat → Prop) (i : Int) (T A : Nat → Prop) (rk : Nat → Nat) : Prop where
  sub : ∀ v, A v → I v
  goal : ∀ v, I v → T v → A v
  mine : ∀ v, A v → ¬ T v → G.own v = i → ∃ u, G.E v u ∧ A u ∧ rk u < rk v
  yours : ∀ v u, A v → ¬ T v → G.own v ≠ i → G.E v u → I u → A u ∧ rk u < rk v
  outm : ∀ v u, I v → ¬ A v → G.own v = i → G.E v u → I u → ¬ A u
  outy : ∀ v, I v → ¬ A v → G.own v ≠ i → (∃ u, G.E v u ∧ I u) → ∃ u, G.E v u ∧ I u ∧ ¬ A u

theorem Lim.shift {pr : Nat → Int} {f : Nat → Nat} {q : Int} (h : Lim pr f q) (n : Nat) : Lim pr (fun k => f (k + n)) q := by
  obtain ⟨h1, m0, h2⟩ := h
  refine ⟨fun k => ?_, m0, fun m hm => h2 _ (by omega)⟩
  obtain ⟨m, hm, e⟩ := h1 (k + n)
  refine ⟨m - n, by omega, ?_⟩
  show pr (f (m - n + n)) = q
  rw [show m - n + n = m by omega]
  exact e
theorem Lim.unshift {pr : Nat → Int} {f : Nat → Nat} {q : Int} {n : Nat} (h : Lim pr (fun k => f (k + n)) q) : Lim pr f q := by
  obtain ⟨h1, m0, h2⟩ := h
  refine ⟨fun k => ?_, m0 + n, fun m hm => ?_⟩
  · obtain ⟨m, hm, e⟩ := h1 k
    exact ⟨m + n, by omega, e⟩
  · have := h2 (m - n) (by omega)
    simp only [show m - n + n = m by omega] at this
    exact this
theorem lim_exists (pr : Nat → Int) : ∀ (M : Nat) (f : Nat → Nat), (∀ k, 0 ≤ pr (f k) ∧ pr (f k) ≤ M) → ∃ q, Lim pr f q
  | 0, f, h => ⟨0, fun n => ⟨n, Nat.le_refl _, by have := h n; omega⟩, 0, fun m _ => by have := h m; omega⟩
  | M + 1, f, h => by
    by_cases hi : ∀ n, ∃ m, n ≤ m ∧ pr (f m) = ((M + 1 : Nat) : Int)
    · exact ⟨_, hi, 0, fun m _ => (h m).2⟩
    · obtain ⟨n, hn⟩ := Classical.not_forall.1 hi
      have hlow : ∀ k, 0 ≤ pr (f (k + n)) ∧ pr (f (k + n)) ≤ M := fun k => by
        have h1 := h (k + n)
        have h2 : ¬ pr (f (k + n)) = ((M + 1 : Nat) : Int) := fun e => hn ⟨k + n, by omega, e⟩
        omega
      obtain ⟨q, hq⟩ := lim_exists pr M (fun k => f (k + n)) hlow
      exact ⟨q, hq.unshift⟩

/-- what both win: nothing -/
theorem wins_apart {G : PG} {I X Y : Nat → Prop} {s t : Nat → Nat} {M : Nat} (hX : WinsIn G I 0 X s) (hY : WinsIn G I 1 Y t)
    (ho : ∀ v, I v → G.own v = 0 ∨ G.own v = 1) (hp : ∀ v, I v → 0 ≤ G.pr v ∧ G.pr v ≤ M) {v : Nat} (h1 : X v) (h2 : Y v) : False := by
  have key : ∃ f : Nat → Nat, f 0 = v ∧ ∀ k, (G.own (f k) = 0 → f (k + 1) = s (f k)) ∧ (G.own (f k) ≠ 0 → f (k + 1) = t (f k)) := by
    refine ⟨fun k => Nat.rec v (fun _ x => if G.own x = 0 then s x else t x) k, rfl, fun k => ⟨fun h => ?_, fun h => ?_⟩⟩
    · show (if G.own _ = 0 then _ else _) = _
      rw [if_pos h]
    · show (if G.own _ = 0 then _ else _) = _
      rw [if_neg h]
  obtain ⟨f, h0, hf⟩ := key
  have hin : ∀ k, X (f k) ∧ Y (f k) ∧ G.E (f k) (f (k + 1)) := by
    have step : ∀ k, X (f k) → Y (f k) → X (f (k + 1)) ∧ Y (f (k + 1)) ∧ G.E (f k) (f (k + 1)) := fun k hx hy => by
      by_cases h : G.own (f k) = 0
      · rw [(hf k).1 h]
        obtain ⟨e, hxs⟩ := hX.mine _ hx h
        exact ⟨hxs, hY.yours _ _ hy (by omega) e (hX.sub _ hxs), e⟩
      · rw [(hf k).2 h]
        have h' : G.own (f k) = 1 := by have := ho _ (hX.sub _ hx); omega
        obtain ⟨e, hys⟩ := hY.mine _ hy h'
        exact ⟨hX.yours _ _ hx h e (hY.sub _ hys), hys, e⟩
    have all : ∀ k, X (f k) ∧ Y (f k) := fun k => by
      induction k with
      | zero => rw [h0]; exact ⟨h1, h2⟩
      | succ k ih => exact ⟨(step k ih.1 ih.2).1, (step k ih.1 ih.2).2.1⟩
    exact fun k => ⟨(all k).1, (all k).2, (step k (all k).1 (all k).2).2.2⟩
  obtain ⟨q, hq⟩ := lim_exists G.pr M f (fun k => hp _ (hX.sub _ (hin k).1))
  have e0 := hX.lim f q (fun k => ⟨(hin k).1, (hin k).2.2⟩) (fun k h => (hf k).1 h) hq
  have e1 := hY.lim f q (fun k => ⟨(hin k).2.1, (hin k).2.2⟩) (fun k h => (hf k).2 (by omega)) hq
  omega

/-- the top priority's player wins all, if he wins all that he cannot bring to the top -/
theorem ziel_all {G : PG} {I A : Nat → Prop} {i p : Int} {rk s' : Nat → Nat} (ht : ∀ v, I v → ∃ u, G.E v u ∧ I u)
    (hp : ∀ v, I v → G.pr v ≤ p) (hi : p % 2 = i) (hA : AttrIn G I i (fun v => G.pr v = p) A rk) (hR : WinsIn G (fun v => I v ∧ ¬ A v) i (fun v => I v ∧ ¬ A v) s') : ∃ s, WinsIn G I i I s := by
  have key : ∀ v, ∃ u, I v → G.own v = i → G.E v u ∧ I u ∧ (A v → G.pr v ≠ p → A u ∧ rk u < rk v) ∧ (¬ A v → u = s' v) := by
    intro v
    by_cases hv : I v
    · by_cases ho : G.own v = i
      · by_cases ha : A v
        · by_cases hpv : G.pr v = p
          · obtain ⟨u, e, hu⟩ := ht v hv
            exact ⟨u, fun _ _ => ⟨e, hu, fun _ h => absurd hpv h, fun h => absurd ha h⟩⟩
          · obtain ⟨u, e, hu, hr⟩ := hA.mine v ha hpv ho
            exact ⟨u, fun _ _ => ⟨e, hA.sub _ hu, fun _ _ => ⟨hu, hr⟩, fun h => absurd ha h⟩⟩
        · obtain ⟨e, hu⟩ := hR.mine v ⟨hv, ha⟩ ho
          exact ⟨s' v, fun _ _ => ⟨e, hu.1, fun h => absurd h ha, fun _ => rfl⟩⟩
      · exact ⟨0, fun _ h => absurd h ho⟩
    · exact ⟨0, fun h => absurd h hv⟩
  obtain ⟨s, hs⟩ := Classical.skolem.1 key
  refine ⟨s, fun v h => h, fun v hv ho => ⟨(hs v hv ho).1, (hs v hv ho).2.1⟩, fun v u _ _ _ h => h, fun f q hf hfo hq => ?_⟩
  by_cases e : q = p
  · rw [e]; exact hi
  · obtain ⟨n0, h0⟩ := hq.2
    have hqp : q < p := by
      obtain ⟨m, _, hm⟩ := hq.1 0
      have := hp _ (hf m).1
      omega
    have hno : ∀ r m, rk (f m) = r → n0 ≤ m → ¬ A (f m) := by
      intro r
      induction r using Nat.strongRecOn with
      | _ r ih =>
        intro m hr hm ha
        have hne : G.pr (f m) ≠ p := by have := h0 m hm; omega
        have hnx : A (f (m + 1)) ∧ rk (f (m + 1)) < rk (f m) := by
          by_cases ho : G.own (f m) = i
          · rw [hfo m ho]
            exact (hs _ (hf m).1 ho).2.2.1 ha hne
          · exact hA.yours _ _ ha hne ho (hf m).2 (hf (m + 1)).1
        exact ih _ (by omega) (m + 1) rfl (by omega) hnx.1
    refine hR.lim (fun k => f (k + n0)) q (fun k => ⟨⟨(hf _).1, hno _ _ rfl (by omega)⟩, ?_⟩) (fun k ho => ?_) (hq.shift n0)
    · show G.E (f (k + n0)) (f (k + 1 + n0))
      rw [show k + 1 + n0 = k + n0 + 1 by omega]
      exact (hf (k + n0)).2
    · show f (k + 1 + n0) = _
      rw [show k + 1 + n0 = k + n0 + 1 by omega, hfo _ ho]
      exact (hs _ (hf _).1 ho).2.2.2 (hno _ _ rfl (by omega))

/-- what i wins outside of what the other one brings to his own, i wins -/
theorem ziel_mine {G : PG} {I L B Y : Nat → Prop} {i j : Int} {rk s : Nat → Nat} (ho : ∀ v, I v → G.own v = i ∨ G.own v = j) (hB : AttrIn G I j L B rk) (hY : WinsIn G (fun v => I v ∧ ¬ B v) i Y s) : WinsIn G I i Y s :=
  ⟨fun v h => (hY.sub v h).1, hY.mine, fun v u hv hne e hu => by
    have h1 := hY.sub v hv
    have hj : G.own v = j := (ho v h1.1).resolve_left hne
    exact hY.yours v u hv hne e ⟨hu, hB.outm v u h1.1 h1.2 hj e hu⟩, hY.lim⟩

/-- the other one wins what he wins of the rest, all that he brings to it, and what he wins outside of that -/
theorem ziel_yours {G : PG} {I T A L B Y : Nat → Prop} {i j : Int} {rk rk' sL sY : Nat → Nat} (_hij : i ≠ j) (ho : ∀ v, I v → G.own v = i ∨ G.own v = j) (hA : AttrIn G I i T A rk)
    (hL : WinsIn G (fun v => I v ∧ ¬ A v) j L sL) (hB : AttrIn G I j L B rk') (hY : WinsIn G (fun v => I v ∧ ¬ B v) j Y sY) : ∃ s, WinsIn G I j (fun v => B v ∨ Y v) s := by
  have hLB : ∀ v, L v → B v := fun v h => hB.goal v (hL.sub v h).1 h
  have key : ∀ v, ∃ u, B v ∨ Y v → G.own v = j → G.E v u ∧ (B u ∨ Y u) ∧ (L v → u = sL v) ∧ (B v → ¬ L v → B u ∧ rk' u < rk' v) ∧ (¬ B v → u = sY v) := by
    intro v
    by_cases hX : B v ∨ Y v
    · by_cases hov : G.own v = j
      · by_cases hl : L v
        · obtain ⟨e, hu⟩ := hL.mine v hl hov
          exact ⟨sL v, fun _ _ => ⟨e, .inl (hLB _ hu), fun _ => rfl, fun _ h => absurd hl h, fun h => absurd (hLB v hl) h⟩⟩
        · by_cases hb : B v
          · obtain ⟨u, e, hu, hr⟩ := hB.mine v hb hl hov
            exact ⟨u, fun _ _ => ⟨e, .inl hu, fun h => absurd h hl, fun _ _ => ⟨hu, hr⟩, fun h => absurd hb h⟩⟩
          · obtain ⟨e, hu⟩ := hY.mine v (hX.resolve_left hb) hov
            exact ⟨sY v, fun _ _ => ⟨e, .inr hu, fun h => absurd h hl, fun h => absurd h hb, fun _ => rfl⟩⟩
      · exact ⟨0, fun _ h => absurd h hov⟩
    · exact ⟨0, fun h => absurd h hX⟩
  obtain ⟨s, hs⟩ := Classical.skolem.1 key
  have hI : ∀ v, B v ∨ Y v → I v := fun v h => h.elim (hB.sub v) (fun h => (hY.sub v h).1)
  have hLstep : ∀ v u, L v → G.E v u → I u → (G.own v = j → u = s v) → L u := fun v u hl e hu hf => by
    by_cases hov : G.own v = j
    · rw [hf hov, (hs v (.inl (hLB v hl)) hov).2.2.1 hl]
      exact (hL.mine v hl hov).2
    · have h1 := hL.sub v hl
      have hi : G.own v = i := (ho v h1.1).resolve_right hov
      exact hL.yours v u hl hov e ⟨hu, hA.outm v u h1.1 h1.2 hi e hu⟩
  refine ⟨s, hI, fun v hv hov => ⟨(hs v hv hov).1, (hs v hv hov).2.1⟩, fun v u hv hov e hu => ?_, fun f q hf hfo hq => ?_⟩
  · by_cases hl : L v
    · exact .inl (hLB u (hLstep v u hl e hu (fun h => absurd h hov)))
    · by_cases hb : B v
      · exact .inl (hB.yours v u hb hl hov e hu).1
      · by_cases hbu : B u
        · exact .inl hbu
        · exact .inr (hY.yours v u (hv.resolve_left hb) hov e ⟨hu, hbu⟩)
  · have shiftE : ∀ n k, f (k + 1 + n) = f (k + n + 1) := fun n k => by rw [show k + 1 + n = k + n + 1 by omega]
    by_cases hex : ∃ m, B (f m)
    · have hL' : ∀ r m, rk' (f m) = r → B (f m) → ∃ m, L (f m) := by
        intro r
        induction r using Nat.strongRecOn with
        | _ r ih =>
          intro m hr hb
          by_cases hl : L (f m)
          · exact ⟨m, hl⟩
          · have hnx : B (f (m + 1)) ∧ rk' (f (m + 1)) < rk' (f m) := by
              by_cases hov : G.own (f m) = j
              · rw [hfo m hov]
                exact (hs _ (hf m).1 hov).2.2.2.1 hb hl
              · exact hB.yours _ _ hb hl hov (hf m).2 (hI _ (hf (m + 1)).1)
            exact ih _ (by omega) (m + 1) rfl hnx.1
      obtain ⟨m0, hm0⟩ := hex
      obtain ⟨n, hn⟩ := hL' _ m0 rfl hm0
      have hall : ∀ k, L (f (k + n)) := fun k => by
        induction k with
        | zero => rw [Nat.zero_add]; exact hn
        | succ k ih =>
          rw [shiftE]
          exact hLstep _ _ ih (hf _).2 (hI _ (hf _).1) (fun h => hfo _ h)
      refine hL.lim (fun k => f (k + n)) q (fun k => ⟨hall k, ?_⟩) (fun k hov => ?_) (hq.shift n)
      · show G.E (f (k + n)) (f (k + 1 + n))
        rw [shiftE]; exact (hf (k + n)).2
      · show f (k + 1 + n) = _
        rw [shiftE, hfo _ hov]
        exact (hs _ (hf _).1 hov).2.2.1 (hall k)
    · have hnb : ∀ k, ¬ B (f k) := fun k h => hex ⟨k, h⟩
      refine hY.lim f q (fun k => ⟨((hf k).1).resolve_left (hnb k), (hf k).2⟩) (fun k hov => ?_) hq
      rw [hfo k hov]
      exact (hs _ (hf k).1 hov).2.2.2.2 (hnb k)
end Go.Proofs.Ytblmcmccdeelgaa
namespace Go.Proofs.Ytblmcmccdeelgaa

/-- a game with who comes from where and with picks -/
structure S7 where
  o : List Int
  p : List Int
  n : List (List Int)
  r : List (List Int)
  c : List Int

/-- how many of 0 .. N - 1 answer yes -/
def cn (N : Nat) (P : Nat → Bool) : Nat := (List.range N).countP P
theorem cn_succ (N : Nat) (P : Nat → Bool) : cn (N + 1) P = cn N P + if P N = true then 1 else 0 := by
  unfold cn
  rw [List.range_succ, List.countP_append]
  simp [List.countP_cons]
theorem cn_congr {N : Nat} {P Q : Nat → Bool} (h : ∀ x, x < N → P x = Q x) : cn N P = cn N Q := by
  induction N with
  | zero => rfl
  | succ N ih => rw [cn_succ, cn_succ, ih fun x hx => h x (by omega), h N (by omega)]
theorem cn_drop {N : Nat} {P Q : Nat → Bool} {u : Nat} (hu : u < N) (h : P u = true) (h' : Q u = false) (he : ∀ x, x < N → x ≠ u → Q x = P x) : cn N P = cn N Q + 1 := by
  induction N with
  | zero => omega
  | succ N ih =>
    rw [cn_succ, cn_succ]
    by_cases e : u = N
    · subst e
      rw [cn_congr (P := Q) (Q := P) fun x hx => he x (by omega) (by omega), if_pos h, if_neg (by rw [h']; decide)]
    · have := ih (by omega) fun x hx hne => he x (by omega) hne
      rw [he N (by omega) (fun e2 => e e2.symm)]
      omega
theorem cn_zero {N : Nat} {P : Nat → Bool} (h : cn N P = 0) : ∀ u, u < N → P u = false := by
  intro u hu
  cases e : P u with
  | false => rfl
  | true =>
    have := cn_drop (P := P) (Q := fun x => P x && !(x == u)) hu e (by simp) (fun x _ hne => by simp [hne])
    omega
theorem cn_pos {N : Nat} {P : Nat → Bool} (h : 0 < cn N P) : ∃ u, u < N ∧ P u = true := by
  induction N with
  | zero => simp [cn] at h
  | succ N ih =>
    rw [cn_succ] at h
    by_cases e : P N = true
    · exact ⟨N, by omega, e⟩
    · rw [if_neg e] at h
      obtain ⟨u, hu, hp⟩ := ih (by omega)
      exact ⟨u, by omega, hp⟩

/-- may v go to u by its pick; is u a successor that v may take -/
def pk (g : S7) (v u : Nat) : Bool := decide (gi g.c v < 0) || (gi g.c v == (u : Int))
def ed (g : S7) (v u : Nat) : Bool := hasL (gl g.n v) (u : Int) && pk g v u
def pvN (g : S7) (N u : Nat) : List Nat := (List.range N).filter fun v => hasL (gl g.n v) (u : Int)
theorem mem_pv {g : S7} {N u v : Nat} : v ∈ pvN g N u ↔ v < N ∧ hasL (gl g.n v) (u : Int) = true := by simp [pvN]
theorem pv_nodup (g : S7) (N u : Nat) : (pvN g N u).Nodup := List.Nodup.sublist List.filter_sublist List.nodup_range
theorem ed_pv {g : S7} {N u v : Nat} (hv : v < N) (h : ed g v u = true) : v ∈ pvN g N u := by
  unfold ed at h
  rw [Bool.and_eq_true] at h
  exact mem_pv.2 ⟨hv, h.1⟩
/-- what has been told: u has been gone through, or v is among the first k that come to the one that is gone through now -/
def dn (g : S7) (N : Nat) (Q : List Nat) (i k u v : Nat) : Bool := decide (u ∈ Q.take i) || (decide (Q[i]? = some u) && decide (v ∈ (pvN g N u).take k))
/-- the state of the queue -/
structure AI (g : S7) (N : Nat) (ins goal : List Bool) (who : Int) (out : List Bool) (left : List Int) (Q : List Nat) (i k : Nat) : Prop where
  lo : out.length = N
  ll : left.length = N
  nd : Q.Nodup
  mem : ∀ v, v ∈ Q ↔ v < N ∧ gb out v = true
  sub : ∀ v, gb out v = true → gb ins v = true
  gl : ∀ v, v < N → gb ins v = true → gb goal v = true → gb out v = true
  lf : ∀ v, v < N → gb ins v = true → gb out v = false → gi left v = (cn N fun u => gb ins u && ed g v u && !dn g N Q i k u v : Nat)
  rk : ∀ (j v : Nat), Q[j]? = some v → gb goal v = false → (gi g.o v = who → ∃ (j' u : Nat), j' < j ∧ Q[j']? = some u ∧ ed g v u = true) ∧ (gi g.o v ≠ who → ∀ u, u < N → gb ins u = true → ed g v u = true → ∃ j' : Nat, j' < j ∧ Q[j']? = some u)
  no : ∀ v, v < N → gb ins v = true → gb out v = false → ∀ u, u < N → gb ins u = true → ed g v u = true → dn g N Q i k u v = true → gi g.o v ≠ who ∧ 1 ≤ gi left v

section
variable {g : S7} {N : Nat} {ins goal : List Bool} {who : Int} {out : List Bool} {left : List Int} {Q : List Nat} {i k : Nat}
theorem AI.qlen (h : AI g N ins goal who out left Q i k) : Q.length ≤ N := by
  have h1 : Q.length ≤ (List.range N).length := h.nd.length_le_of_subset fun v hv => List.mem_range.2 ((h.mem v).1 hv).1
  simpa using h1
theorem dn_out {Q' : List Nat} (hi : i < Q.length) (u v : Nat) : dn g N (Q ++ Q') i k u v = dn g N Q i k u v := by
  unfold dn
  rw [List.take_append_of_le_length (by omega), List.getElem?_append_left hi]
theorem take_mem_succ {l : List Nat} {k x v : Nat} (h : l[k]? = some x) : v ∈ l.take (k + 1) ↔ v ∈ l.take k ∨ v = x := by
  rw [List.take_add_one, h]; simp
theorem nodup_not_take {l : List Nat} (hn : l.Nodup) {k x : Nat} (h : l[k]? = some x) : x ∉ l.take k := by
  intro hm
  obtain ⟨j, hj, e⟩ := List.getElem_of_mem hm
  rw [List.length_take] at hj
  rw [List.getElem_take] at e
  have hk : k < l.length := (List.getElem?_eq_some_iff.1 h).1
  have e2 := (List.getElem?_eq_some_iff.1 h).2
  have h3 : l[j]? = l[k]? := by rw [h, List.getElem?_eq_getElem (by omega), e]
  have := (List.getElem?_inj (by omega) hn).1 h3
  omega
/-- one more of those that come to u has been looked at: told of v -/
theorem dn_k {u v : Nat} (hu : Q[i]? = some u) (hv : (pvN g N u)[k]? = some v) (x y : Nat) : dn g N Q i (k + 1) x y = (dn g N Q i k x y || (x == u && y == v)) := by
  unfold dn
  by_cases e : x = u
  · subst e
    have h2 : ∀ y, y ∈ (pvN g N x).take (k + 1) ↔ y ∈ (pvN g N x).take k ∨ y = v := fun y => take_mem_succ hv
    rw [Bool.eq_iff_iff]
    simp [hu, h2]
    grind
  · have h3 : ¬ Q[i]? = some x := fun h => e (by rw [hu] at h; injection h with h; exact h.symm)
    simp [h3, e]
theorem dn_fresh (h : AI g N ins goal who out left Q i k) {u v : Nat} (hu : Q[i]? = some u) (hv : (pvN g N u)[k]? = some v) : dn g N Q i k u v = false := by
  have h1 := nodup_not_take h.nd hu
  have h2 := nodup_not_take (pv_nodup g N u) hv
  unfold dn
  simp [h1, h2]
/-- nothing is to be done at v -/
theorem AI.skip (h : AI g N ins goal who out left Q i k) {u v : Nat} (hu : Q[i]? = some u) (hv : (pvN g N u)[k]? = some v) (hs : gb ins v = false ∨ gb out v = true ∨ pk g v u = false) : AI g N ins goal who out left Q i (k + 1) := by
  have key : ∀ y, y < N → gb ins y = true → gb out y = false → ∀ x, ed g y x = true → dn g N Q i (k + 1) x y = dn g N Q i k x y := by
    intro y hy h1 h2 x hx
    rw [dn_k hu hv]
    have : (x == u && y == v) = false := by
      cases e : (x == u && y == v) with
      | false => rfl
      | true =>
        simp at e
        obtain ⟨rfl, rfl⟩ := e
        rcases hs with h3 | h3 | h3
        · rw [h1] at h3; cases h3
        · rw [h2] at h3; cases h3
        · unfold ed at hx; rw [h3, Bool.and_false] at hx; cases hx
    rw [this, Bool.or_false]
  refine ⟨h.lo, h.ll, h.nd, h.mem, h.sub, h.gl, fun y hy h1 h2 => ?_, h.rk, fun y hy h1 h2 x hx h3 h4 h5 => h.no y hy h1 h2 x hx h3 h4 ?_⟩
  · rw [h.lf y hy h1 h2]
    congr 1
    refine cn_congr fun x hx => ?_
    cases e : ed g y x with
    | false => simp
    | true => rw [key y hy h1 h2 x e]
  · rw [← key y hy h1 h2 x h4]; exact h5
/-- v has one way less that leads out -/
theorem AI.dec (h : AI g N ins goal who out left Q i k) {u v : Nat} (hu : Q[i]? = some u) (hv : (pvN g N u)[k]? = some v) (h1 : gb ins v = true) (h2 : gb out v = false) (h3 : pk g v u = true) :
    gi left v - 1 = (cn N fun x => gb ins x && ed g v x && !dn g N Q i (k + 1) x v : Nat) := by
  have hvm := mem_pv.1 (List.mem_of_getElem? hv)
  have hum := (h.mem u).1 (List.mem_of_getElem? hu)
  have hed : ed g v u = true := by unfold ed; rw [hvm.2, h3]; rfl
  have := h.lf v hvm.1 h1 h2
  rw [this, cn_drop (u := u) (P := fun x => gb ins x && ed g v x && !dn g N Q i k x v) (Q := fun x => gb ins x && ed g v x && !dn g N Q i (k + 1) x v) hum.1]
  · omega
  · simp [h.sub u hum.2, hed, dn_fresh h hu hv]
  · simp [dn_k hu hv]
  · intro x hx hne
    have hxu : (x == u) = false := by simp [hne]
    simp [dn_k hu hv, hxu]
theorem AI.keep (h : AI g N ins goal who out left Q i k) {u v : Nat} (hu : Q[i]? = some u) (hv : (pvN g N u)[k]? = some v) (h1 : gb ins v = true) (h2 : gb out v = false) (h3 : pk g v u = true) (h4 : gi g.o v ≠ who) (h5 : gi left v - 1 ≠ 0) :
    AI g N ins goal who out (left.set v (gi left v - 1)) Q i (k + 1) := by
  have hd := h.dec hu hv h1 h2 h3
  have hvm := mem_pv.1 (List.mem_of_getElem? hv)
  have hl : v < left.length := by rw [h.ll]; exact hvm.1
  refine ⟨h.lo, by rw [List.length_set]; exact h.ll, h.nd, h.mem, h.sub, h.gl, fun y hy k1 k2 => ?_, h.rk, fun y hy k1 k2 x hx k3 k4 k5 => ?_⟩
  · rw [gi_set hl]
    by_cases e : v = y
    · subst e
      rw [if_pos rfl]; exact hd
    · rw [if_neg e, h.lf y hy k1 k2]
      congr 1
      refine cn_congr fun x hx => ?_
      have : (y == v) = false := by simp; exact fun h => e h.symm
      rw [dn_k hu hv, this, Bool.and_false, Bool.or_false]
  · rw [gi_set hl]
    by_cases e : v = y
    · subst e
      rw [if_pos rfl]
      exact ⟨h4, by omega⟩
    · rw [if_neg e]
      refine h.no y hy k1 k2 x hx k3 k4 ?_
      have : (y == v) = false := by simp; exact fun h => e h.symm
      rw [dn_k hu hv, this, Bool.and_false, Bool.or_false] at k5
      exact k5
theorem AI.add (h : AI g N ins goal who out left Q i k) {u v : Nat} (hu : Q[i]? = some u) (hv : (pvN g N u)[k]? = some v) (h1 : gb ins v = true) (h2 : gb out v = false) (h3 : pk g v u = true) (h4 : gi g.o v = who ∨ gi left v - 1 = 0) :
    AI g N ins goal who (out.set v true) (left.set v (gi left v - 1)) (Q ++ [v]) i (k + 1) := by
  have hd := h.dec hu hv h1 h2 h3
  have hvm := mem_pv.1 (List.mem_of_getElem? hv)
  have hum := (h.mem u).1 (List.mem_of_getElem? hu)
  have hil : i < Q.length := (List.getElem?_eq_some_iff.1 hu).1
  have hl : v < left.length := by rw [h.ll]; exact hvm.1
  have hlo : v < out.length := by rw [h.lo]; exact hvm.1
  have hed : ed g v u = true := by unfold ed; rw [hvm.2, h3]; rfl
  have hnq : v ∉ Q := fun hm => by have := ((h.mem v).1 hm).2; rw [h2] at this; cases this
  have hout : ∀ y, gb (out.set v true) y = true ↔ y = v ∨ gb out y = true := fun y => by
    rw [gb_set hlo]
    by_cases e : v = y
    · subst e; simp
    · rw [if_neg e]
      exact ⟨.inr, fun h => h.resolve_left fun h => e h.symm⟩
  have houtf : ∀ y, gb (out.set v true) y = false → y ≠ v ∧ gb out y = false := fun y hy => by
    rw [gb_set hlo] at hy
    by_cases e : v = y
    · rw [if_pos e] at hy; cases hy
    · rw [if_neg e] at hy; exact ⟨fun h => e h.symm, hy⟩
  refine ⟨by rw [List.length_set]; exact h.lo, by rw [List.length_set]; exact h.ll, ?_, fun y => ?_, fun y hy => ?_, fun y hy k1 k2 => ?_, fun y hy k1 k2 => ?_, fun j y hj hgy => ?_, fun y hy k1 k2 x hx k3 k4 k5 => ?_⟩
  · exact List.nodup_append.2 ⟨h.nd, by simp, fun a ha b hb => by simp at hb; subst hb; exact fun e => hnq (e ▸ ha)⟩
  · rw [List.mem_append, h.mem, hout]
    simp
    constructor
    · rintro (⟨a, b⟩ | rfl)
      · exact ⟨a, .inr b⟩
      · exact ⟨hvm.1, .inl rfl⟩
    · rintro ⟨a, rfl | b⟩
      · exact .inr rfl
      · exact .inl ⟨a, b⟩
  · rcases (hout y).1 hy with rfl | hy
    · exact h1
    · exact h.sub y hy
  · exact (hout y).2 (.inr (h.gl y hy k1 k2))
  · obtain ⟨hne, k2⟩ := houtf y k2
    rw [gi_set hl, if_neg (fun e => hne e.symm), h.lf y hy k1 k2]
    congr 1
    refine cn_congr fun x hx => ?_
    have : (y == v) = false := by simp; exact hne
    rw [dn_out hil, dn_k hu hv, this, Bool.and_false, Bool.or_false]
  · by_cases e : j < Q.length
    · rw [List.getElem?_append_left e] at hj
      obtain ⟨r1, r2⟩ := h.rk j y hj hgy
      refine ⟨fun ho => ?_, fun ho x hx hix hex => ?_⟩
      · obtain ⟨j', x, a, b, c⟩ := r1 ho
        exact ⟨j', x, a, by rw [List.getElem?_append_left (by omega)]; exact b, c⟩
      · obtain ⟨j', a, b⟩ := r2 ho x hx hix hex
        exact ⟨j', a, by rw [List.getElem?_append_left (by omega)]; exact b⟩
    · have hjq : j = Q.length := by
        have := (List.getElem?_eq_some_iff.1 hj).1
        simp at this; omega
      subst hjq
      have hyv : y = v := by simpa using hj.symm
      subst hyv
      refine ⟨fun _ => ⟨i, u, hil, by rw [List.getElem?_append_left hil]; exact hu, hed⟩, fun ho x hx hix hex => ?_⟩
      have h0 := h4.resolve_left ho
      rw [hd] at h0
      have h0n : cn N (fun x => gb ins x && ed g y x && !dn g N Q i (k + 1) x y) = 0 := by omega
      have hz := cn_zero h0n x hx
      simp [hix, hex] at hz
      unfold dn at hz
      simp at hz
      rcases hz with hz | hz
      · obtain ⟨j', hj', e⟩ := List.getElem_of_mem hz
        rw [List.length_take] at hj'
        rw [List.getElem_take] at e
        exact ⟨j', by omega, by rw [List.getElem?_append_left (by omega)]; exact List.getElem?_eq_some_iff.2 ⟨by omega, e⟩⟩
      · exact ⟨i, hil, by rw [List.getElem?_append_left hil]; exact hz.1⟩
  · obtain ⟨hne, k2⟩ := houtf y k2
    rw [gi_set hl, if_neg (fun e => hne e.symm)]
    refine h.no y hy k1 k2 x hx k3 k4 ?_
    have : (y == v) = false := by simp; exact hne
    rw [dn_out hil, dn_k hu hv, this, Bool.and_false, Bool.or_false] at k5
    exact k5
/-- all that come to u have been looked at -/
theorem AI.next (h : AI g N ins goal who out left Q i k) {u : Nat} (hu : Q[i]? = some u) (hk : (pvN g N u).length ≤ k) : AI g N ins goal who out left Q (i + 1) 0 := by
  have key : ∀ y, y < N → ∀ x, ed g y x = true → dn g N Q (i + 1) 0 x y = dn g N Q i k x y := by
    intro y hy x hx
    unfold dn
    rw [Bool.eq_iff_iff]
    have h1 : x ∈ Q.take (i + 1) ↔ x ∈ Q.take i ∨ x = u := take_mem_succ hu
    have h2 := ed_pv hy hx
    have h4 : (pvN g N u).take k = pvN g N u := List.take_of_length_le hk
    simp [h1, hu]
    constructor
    · rintro (h3 | rfl)
      · exact .inl h3
      · exact .inr ⟨rfl, by rw [h4]; exact h2⟩
    · rintro (h3 | ⟨h3, _⟩)
      · exact .inl h3
      · exact .inr h3.symm
  refine ⟨h.lo, h.ll, h.nd, h.mem, h.sub, h.gl, fun y hy h1 h2 => ?_, h.rk, fun y hy h1 h2 x hx h3 h4 h5 => h.no y hy h1 h2 x hx h3 h4 ?_⟩
  · rw [h.lf y hy h1 h2]
    congr 1
    refine cn_congr fun x hx => ?_
    cases e : ed g y x with
    | false => simp
    | true => rw [key y hy x e]
  · rw [← key y hy x h4]; exact h5

/-- the game as the laws of parity games have it -/
def pgOf (g : S7) : PG := ⟨gi g.o, fun v u => ed g v u = true, gi g.p⟩
def InS (N : Nat) (ins : List Bool) (v : Nat) : Prop := v < N ∧ gb ins v = true
/-- the end: all of the queue has been gone through -/
theorem AI.fin (h : AI g N ins goal who out left Q i k) (hi : Q.length ≤ i) (_hE : ∀ v u, ed g v u = true → u < N) :
    AttrIn (pgOf g) (InS N ins) who (fun v => gb goal v = true) (fun v => gb out v = true) (fun v => Q.idxOf v) := by
  have hlt : ∀ v, gb out v = true → v < N := fun v hv => by
    have h1 : v < out.length := by
      by_cases e : v < out.length
      · exact e
      · have : gb out v = false := by simp [gb, List.getElem?_eq_none (Nat.le_of_not_lt e)]
        rw [this] at hv; cases hv
    rw [h.lo] at h1; exact h1
  have hat : ∀ v, gb out v = true → Q[Q.idxOf v]? = some v := fun v hv => by
    have hm := (h.mem v).2 ⟨hlt v hv, hv⟩
    rw [List.getElem?_eq_getElem (List.idxOf_lt_length_of_mem hm), List.getElem_idxOf]
  have hix : ∀ j v, Q[j]? = some v → Q.idxOf v = j := fun j v hj => by
    obtain ⟨hjl, e⟩ := List.getElem?_eq_some_iff.1 hj
    rw [← e]
    exact h.nd.idxOf_getElem j hjl
  have hdn : ∀ u v, gb out u = true → dn g N Q i k u v = true := fun u v hu => by
    unfold dn
    rw [List.take_of_length_le hi]
    simp [(h.mem u).2 ⟨hlt u hu, hu⟩]
  refine ⟨fun v hv => ⟨hlt v hv, h.sub v hv⟩, fun v hv hg => h.gl v hv.1 hv.2 hg, fun v hv hg ho => ?_, fun v u hv hg ho he hu => ?_, fun v u hv hnv ho he hu hou => ?_, fun v hv hnv ho hex => ?_⟩
  · obtain ⟨j', u, a, b, c⟩ := (h.rk _ v (hat v hv) (by simpa using hg)).1 ho
    have hu := (h.mem u).1 (List.mem_of_getElem? b)
    exact ⟨u, c, hu.2, by rw [hix j' u b]; exact a⟩
  · obtain ⟨j', a, b⟩ := (h.rk _ v (hat v hv) (by simpa using hg)).2 ho u hu.1 hu.2 he
    have hu := (h.mem u).1 (List.mem_of_getElem? b)
    exact ⟨hu.2, by show Q.idxOf u < Q.idxOf v; rw [hix j' u b]; exact a⟩
  · exact (h.no v hv.1 hv.2 (by simpa using hnv) u hu.1 hu.2 he (hdn u v hou)).1 ho
  · by_cases hd : ∃ u, u < N ∧ gb ins u = true ∧ ed g v u = true ∧ dn g N Q i k u v = true
    · obtain ⟨u, hu, h1, h2, h3⟩ := hd
      have hl := (h.no v hv.1 hv.2 (by simpa using hnv) u hu h1 h2 h3).2
      rw [h.lf v hv.1 hv.2 (by simpa using hnv)] at hl
      obtain ⟨x, hx, hp⟩ := cn_pos (N := N) (P := fun u => gb ins u && ed g v u && !dn g N Q i k u v) (by omega)
      simp at hp
      refine ⟨x, hp.1.2, ⟨hx, hp.1.1⟩, fun ho => ?_⟩
      have := hdn x v ho
      rw [hp.2] at this; cases this
    · obtain ⟨u, he, hu⟩ := hex
      exact ⟨u, he, hu, fun ho => hd ⟨u, hu.1, hu.2, he, hdn u v ho⟩⟩
end
end Go.Proofs.Ytblmcmccdeelgaa
namespace Go.Proofs.Ytblmcmccdeelgaa
open Go.RowKit

/-- the game reads so -/
def R7 (w : World) (s0 s1 s2 s3 s4 : Value) (g : S7) : Prop := RIv w s0 g.o ∧ RIv w s1 g.p ∧ RIIv w s2 g.n ∧ RIIv w s3 g.r ∧ RIv w s4 g.c
theorem R7.keep {w w' : World} {s0 s1 s2 s3 s4 : Value} {g : S7} (h : R7 w s0 s1 s2 s3 s4 g) (k : Keeps w w') : R7 w' s0 s1 s2 s3 s4 g := ⟨h.1.keep k, h.2.1.keep k, h.2.2.1.keep k, h.2.2.2.1.keep k, h.2.2.2.2.keep k⟩
theorem R7.form {w : World} {s0 s1 s2 s3 s4 : Value} {g : S7} (h : R7 w s0 s1 s2 s3 s4 g) : ∃ A0 n0 c0 A1 n1 c1 A2 n2 c2 A3 n3 c3 A4 n4 c4, s0 = .slice A0 n0 c0 ∧ s1 = .slice A1 n1 c1 ∧ s2 = .slice A2 n2 c2 ∧ s3 = .slice A3 n3 c3 ∧ s4 = .slice A4 n4 c4 ∧
    RI w A0 n0 c0 g.o ∧ RI w A1 n1 c1 g.p ∧ RII w A2 n2 c2 g.n ∧ RII w A3 n3 c3 g.r ∧ RI w A4 n4 c4 g.c := by
  obtain ⟨⟨A0, n0, c0, e0, h0⟩, ⟨A1, n1, c1, e1, h1⟩, ⟨A2, n2, c2, e2, h2⟩, ⟨A3, n3, c3, e3, h3⟩, ⟨A4, n4, c4, e4, h4⟩⟩ := h
  exact ⟨A0, n0, c0, A1, n1, c1, A2, n2, c2, A3, n3, c3, A4, n4, c4, e0, e1, e2, e3, e4, h0, h1, h2, h3, h4⟩
/-- as l7Of makes it of a right game -/
structure fine7 (g : S7) (N : Nat) : Prop where
  lo : g.o.length = N
  lp : g.p.length = N
  ln : g.n.length = N
  lr : g.r.length = N
  lc : g.c.length = N
  n1 : 1 ≤ N
  n2 : N ≤ 256
  own : ∀ v, v < N → 0 ≤ gi g.o v ∧ gi g.o v ≤ 1
  pr : ∀ v, v < N → 0 ≤ gi g.p v ∧ gi g.p v ≤ 40
  row : ∀ v, v < N → (gl g.n v).length ≤ 16 ∧ setB (gl g.n v) (N : Int) = true
  prev : ∀ u, u < N → gl g.r u = (pvN g N u).map fun (x : Nat) => (x : Int)
theorem Box.e0 {w : World} {b : Nat} {t : TypeId} {x0 x1 x2 x3 x4 : Value} (h : Box w b t #[x0, x1, x2, x3, x4]) : w.cell? ⟨b, 0, none⟩ = some x0 := h.cell 0
theorem Box.e1 {w : World} {b : Nat} {t : TypeId} {x0 x1 x2 x3 x4 : Value} (h : Box w b t #[x0, x1, x2, x3, x4]) : w.cell? ⟨b, 1, none⟩ = some x1 := h.cell 1
theorem Box.e2 {w : World} {b : Nat} {t : TypeId} {x0 x1 x2 x3 x4 : Value} (h : Box w b t #[x0, x1, x2, x3, x4]) : w.cell? ⟨b, 2, none⟩ = some x2 := h.cell 2
theorem Box.e3 {w : World} {b : Nat} {t : TypeId} {x0 x1 x2 x3 x4 : Value} (h : Box w b t #[x0, x1, x2, x3, x4]) : w.cell? ⟨b, 3, none⟩ = some x3 := h.cell 3
theorem Box.e4 {w : World} {b : Nat} {t : TypeId} {x0 x1 x2 x3 x4 : Value} (h : Box w b t #[x0, x1, x2, x3, x4]) : w.cell? ⟨b, 4, none⟩ = some x4 := h.cell 4
theorem row_mem {g : S7} {N : Nat} (hf : fine7 g N) {v : Nat} (hv : v < N) {x : Int} (hx : x ∈ gl g.n v) : ∃ u : Nat, x = (u : Int) ∧ u < N := by
  have h1 := set_mem (hf.row v hv).2 hx
  obtain ⟨u, hu⟩ := Int.eq_ofNat_of_zero_le h1.1
  exact ⟨u, hu, by omega⟩
theorem ed_lt {g : S7} {N : Nat} (hf : fine7 g N) (v u : Nat) (h : ed g v u = true) : u < N := by
  unfold ed at h
  rw [Bool.and_eq_true] at h
  have hm := hasL_iff.1 h.1
  by_cases hv : v < N
  · obtain ⟨u', e, hu⟩ := row_mem hf hv hm
    omega
  · have : gl g.n v = [] := by simp [gl, List.getElem?_eq_none (show g.n.length ≤ v by rw [hf.ln]; omega)]
    rw [this] at hm; cases hm

/-- the successors of v within a part, as far as k -/
def dgUp (g : S7) (ins : List Bool) (v : Nat) : Nat → Nat
  | 0 => 0
  | k + 1 => if gb ins (gi (gl g.n v) k).toNat = true ∧ pk g v (gi (gl g.n v) k).toNat = true then dgUp g ins v k + 1 else dgUp g ins v k
def dgN (g : S7) (ins : List Bool) (v : Nat) : Nat := dgUp g ins v (gl g.n v).length
theorem dgUp_le (g : S7) (ins : List Bool) (v k : Nat) : dgUp g ins v k ≤ k := by
  induction k with
  | zero => exact Nat.le_refl _
  | succ k ih => unfold dgUp; split <;> omega
theorem dgUp_cn {g : S7} {N : Nat} (hf : fine7 g N) (ins : List Bool) {v : Nat} (hv : v < N) : ∀ k, k ≤ (gl g.n v).length → dgUp g ins v k = cn N fun u => gb ins u && (hasL ((gl g.n v).take k) (u : Int) && pk g v u)
  | 0, _ => by
    rw [dgUp]
    have : (fun u : Nat => gb ins u && (hasL ((gl g.n v).take 0) (u : Int) && pk g v u)) = fun _ => false := by funext u; simp [hasL]
    rw [this]
    simp [cn]
  | k + 1, hk => by
    have ih := dgUp_cn hf ins hv k (by omega)
    obtain ⟨u, hu, hun⟩ := row_mem hf hv (gi_mem (xs := gl g.n v) (i := k) (by omega))
    have hr := rises_set (hf.row v hv).2
    have hnew : hasL ((gl g.n v).take k) (u : Int) = false := by
      refine hasL_no (n := k) (by rw [List.length_take]; omega) fun j hj e => ?_
      rw [gi_take hj] at e
      have := hr j k hj (by omega)
      omega
    have hsucc : ∀ x : Nat, hasL ((gl g.n v).take (k + 1)) (x : Int) = (hasL ((gl g.n v).take k) (x : Int) || x == u) := fun x => by
      rw [take_gi (by omega), hu, Bool.eq_iff_iff]
      simp only [hasL_iff, List.mem_append, List.mem_singleton, Bool.or_eq_true, beq_iff_eq]
      constructor
      · rintro (h | h)
        · exact .inl h
        · exact .inr (by omega)
      · rintro (h | h)
        · exact .inl h
        · exact .inr (by omega)
    rw [dgUp, hu, Int.toNat_natCast]
    by_cases hc : gb ins u = true ∧ pk g v u = true
    · rw [if_pos hc, ih]
      refine (cn_drop hun ?_ ?_ fun x hx hne => ?_).symm
      · simp [hc.1, hc.2, hsucc]
      · simp [hnew]
      · have : (x == u) = false := by simp [hne]
        simp [hsucc, this]
    · rw [if_neg hc, ih]
      refine cn_congr fun x hx => ?_
      by_cases e : x = u
      · subst e
        rw [hnew, hsucc]
        cases h1 : gb ins x with
        | false => simp
        | true => cases h2 : pk g v x with
          | false => simp
          | true => exact absurd ⟨h1, h2⟩ hc
      · have : (x == u) = false := by simp [e]
        simp [hsucc, this]
theorem dgN_cn {g : S7} {N : Nat} (hf : fine7 g N) (ins : List Bool) {v : Nat} (hv : v < N) : dgN g ins v = cn N fun u => gb ins u && ed g v u := by
  unfold dgN ed
  rw [dgUp_cn hf ins hv _ (Nat.le_refl _)]
  rw [List.take_of_length_le (Nat.le_refl _)]
theorem cn_le (N : Nat) (P : Nat → Bool) : cn N P ≤ N := by
  unfold cn
  have := List.countP_le_length (p := P) (l := List.range N)
  simpa using this

set_option maxRecDepth 100000 in
theorem l7Edge (s0 s1 s2 s3 s4 : Value) (g : S7) (N : Nat) (v u : Nat) (w : World) (B : Nat) (hB : B ≤ w.heap.size) (ha : R7 w s0 s1 s2 s3 s4 g) (hf : fine7 g N) (hv : v < N) :
    Calls Try.prog 86 #[.agg #[s0, s1, s2, s3, s4], .int .i64 (v : Int), .int .i64 (u : Int)] w fun e w' => e = .returned (.bool (pk g v u)) ∧ Below B w w' := by
  obtain ⟨A0, n0, c0, A1, n1, c1, A2, n2, c2, A3, n3, c3, A4, n4, c4, rfl, rfl, rfl, rfl, rfl, r0, r1, r2, r3, r4⟩ := ha.form
  have bx := Box.new w 76 #[.slice A0 n0 c0, .slice A1 n1 c1, .slice A2 n2 c2, .slice A3 n3 c3, .slice A4 n4 c4]
  have hba : Below w.heap.size w (w.alloc (.cells #[.slice A0 n0 c0, .slice A1 n1 c1, .slice A2 n2 c2, .slice A3 n3 c3, .slice A4 n4 c4] 76)) := below_alloc (Nat.le_refl _) (Below.refl _ _)
  have l4 : v < n4 := by rw [← r4.len, hf.lc]; exact hv
  have b1 := r4.cap; have b2 := r4.top
  obtain ⟨b, off, rfl, hc⟩ := (r4.keep (keeps_below hba)).at_ l4
  have q4 := bx.e4
  have i4 : (v : Int) < (n4 : Int) := by omega
  have iz : (0 : Int) ≤ (v : Int) := by omega
  by_cases hn : gi g.c v < 0
  · have E := Lib.hid (show pk g v u = true by unfold pk; rw [decide_eq_true hn]; rfl)
    go_enter Try.func86, Try.ntmps86
    go_wp2
    go_ret
    exact ⟨ret_b E.out.symm, hba.mono hB⟩
  · cases he : gi g.c v == (u : Int) with
    | true =>
      have E := Lib.hid (show pk g v u = true by unfold pk; rw [he, Bool.or_true])
      have hd : decide (gi g.c v < 0) = false := decide_eq_false hn
      clear hn
      go_enter Try.func86, Try.ntmps86
      go_wp2
      go_ret
      exact ⟨ret_b E.out.symm, hba.mono hB⟩
    | false =>
      have E := Lib.hid (show pk g v u = false by unfold pk; rw [he, decide_eq_false hn]; rfl)
      have hd : decide (gi g.c v < 0) = false := decide_eq_false hn
      clear hn
      go_enter Try.func86, Try.ntmps86
      go_wp2
      go_ret
      exact ⟨ret_b E.out.symm, hba.mono hB⟩

set_option maxRecDepth 100000 in
set_option maxHeartbeats 800000 in
theorem l7Degree (s0 s1 s2 s3 s4 : Value) (g : S7) (N : Nat) (I : Option Addr) (ci : Nat) (ins : List Bool) (v : Nat) (w : World) (B : Nat) (hB : B ≤ w.heap.size) (ha : R7 w s0 s1 s2 s3 s4 g) (hi : RB w I N ci ins) (hf : fine7 g N) (hv : v < N) :
    Calls Try.prog 85 #[.agg #[s0, s1, s2, s3, s4], .slice I N ci, .int .i64 (v : Int)] w fun e w' => e = .returned (.int .i64 (dgN g ins v : Nat)) ∧ Below B w w' := by
  obtain ⟨A0, n0, c0, A1, n1, c1, A2, n2, c2, A3, n3, c3, A4, n4, c4, rfl, rfl, rfl, rfl, rfl, r0, r1, r2, r3, r4⟩ := ha.form
  have bx := Box.new w 76 #[.slice A0 n0 c0, .slice A1 n1 c1, .slice A2 n2 c2, .slice A3 n3 c3, .slice A4 n4 c4]
  have hba : Below w.heap.size w (w.alloc (.cells #[.slice A0 n0 c0, .slice A1 n1 c1, .slice A2 n2 c2, .slice A3 n3 c3, .slice A4 n4 c4] 76)) := below_alloc (Nat.le_refl _) (Below.refl _ _)
  have har := ha
  have l2 : v < n2 := by rw [← r2.len, hf.ln]; exact hv
  have b1 := r2.cap; have b2 := r2.top; have b3 := hi.cap; have b4 := hi.top
  obtain ⟨bn, on, An, nn, cn_, rfl, hcn, rn⟩ := r2.at_ l2
  have b5 := rn.cap; have b6 := rn.top
  have i2 : (v : Int) < (n2 : Int) := by omega
  have iz : (0 : Int) ≤ (v : Int) := by omega
  have HNN := Lib.hid rn.len
  have hnn : nn ≤ 16 := by have := (hf.row v hv).1; rw [HNN.out] at this; exact this
  go_enter Try.func85, Try.ntmps85
  go_wp2
  go_loopw [7, 8] (fun c i wr => ∃ k : Nat, k ≤ nn ∧ i = .int .i64 k ∧ c = .int .i64 (dgUp g ins v k : Nat) ∧ Box wr w.heap.size 76 #[.slice A0 n0 c0, .slice A1 n1 c1, .slice (some ⟨bn, on, none⟩) n2 c2, .slice A3 n3 c3, .slice A4 n4 c4] ∧ Below w.heap.size w wr) (fun _ i _ => nn - (intOf i).toNat)
  case atStart => exact ⟨0, Nat.zero_le _, rfl, rfl, bx, hba⟩
  case round =>
    clear bx hba
    obtain ⟨k, hk, rfl, rfl, bx, hbr⟩ := hrel
    have q2 := bx.e2
    have kn := below_cell hbr hcn
    have hdl := dgUp_le g ins v k
    have hd0 : (0 : Int) ≤ ((dgUp g ins v k : Nat) : Int) := by omega
    have hd1 : ((dgUp g ins v k : Nat) : Int) ≤ 16 := by omega
    by_cases hlt : k < nn
    · obtain ⟨br, ore, rfl, hcr⟩ := (rn.keep (keeps_below hbr)).at_ hlt
      obtain ⟨u, hu, hun⟩ := row_mem hf hv (gi_mem (xs := gl g.n v) (i := k) (by rw [HNN.out]; exact hlt))
      rw [hu] at hcr
      obtain ⟨bi, oi, rfl, hci⟩ := (hi.keep (keeps_below hbr)).at_ hun
      have HU := Lib.hid hu
      have hki : (k : Int) < (nn : Int) := by omega
      have hk0 : (0 : Int) ≤ (k : Int) := by omega
      have hui : (u : Int) < (N : Int) := by omega
      have hu0 : (0 : Int) ≤ (u : Int) := by omega
      clear hu hdl
      cases h1 : gb ins u with
      | false =>
        rw [h1] at hci
        have HX := Lib.hid (show dgUp g ins v (k + 1) = dgUp g ins v k by rw [dgUp, HU.out, Int.toNat_natCast, if_neg (by rw [h1]; simp)])
        clear h1
        go_wp2
        go_roundw
        case rel => exact ⟨k + 1, by omega, by go_num, by rw [HX.out], bx, hbr⟩
        case measure => simp [intOf]; omega
      | true =>
        rw [h1] at hci
        have q0 := bx.e0; have q1 := bx.e1; have q3 := bx.e3; have q4 := bx.e4
        go_wp2_with fail
        refine (l7Edge _ _ _ _ _ g N v u _ _ (Nat.le_refl _) (har.keep (keeps_below hbr)) hf hv).mono ?_; rintro e w2 ⟨rfl, hb2⟩
        have bx2 := bx.on hb2
        have hw2 := below_then hb2 hbr.size hbr
        clear q0 q1 q2 q3 q4 bx
        cases h2 : pk g v u with
        | false =>
          have HX := Lib.hid (show dgUp g ins v (k + 1) = dgUp g ins v k by rw [dgUp, HU.out, Int.toNat_natCast, if_neg (by rw [h2]; simp)])
          clear h1 h2
          go_wp2
          go_roundw
          case rel => exact ⟨k + 1, by omega, by go_num, by rw [HX.out], bx2, hw2⟩
          case measure => simp [intOf]; omega
        | true =>
          have HX := Lib.hid (show ((dgUp g ins v (k + 1) : Nat) : Int) = ((dgUp g ins v k : Nat) : Int) + 1 by rw [dgUp, HU.out, Int.toNat_natCast, if_pos ⟨h1, h2⟩]; omega)
          clear h1 h2
          go_wp2
          go_roundw
          case rel => exact ⟨k + 1, by omega, by go_num, by rw [HX.out], bx2, hw2⟩
          case measure => simp [intOf]; omega
    · obtain rfl : k = nn := by omega
      have HX := Lib.hid (show dgUp g ins v k = dgN g ins v by unfold dgN; rw [HNN.out])
      go_wp2
      go_ret
      exact ⟨ret_i (by rw [HX.out]), hbr.mono hB⟩
end Go.Proofs.Ytblmcmccdeelgaa
namespace Go.Proofs.Ytblmcmccdeelgaa
open Go.RowKit

theorem fillB_keep {f : Nat → Bool} {n k : Nat} (h : f k = false) : fillB f n (k + 1) = fillB f n k := gb_ext (by simp [fillB_len]) fun j hj => by
  rw [fillB_len] at hj
  rw [fillB_at hj, fillB_at hj]
  by_cases e : k = j
  · subst e; simp [h]
  · by_cases e2 : j < k
    · simp [e2, show j < k + 1 by omega]
    · simp [e2, show ¬ j < k + 1 by omega]
theorem gb_none {xs : List Bool} {v : Nat} (h : xs.length ≤ v) : gb xs v = false := by
  unfold gb
  rw [List.getD_eq_getElem?_getD, List.getElem?_eq_none h]; rfl
theorem fillB_iff {f : Nat → Bool} {N v : Nat} : gb (fillB f N N) v = true ↔ v < N ∧ f v = true := by
  by_cases e : v < N
  · rw [fillB_at e]; simp [e]
  · rw [gb_none (by rw [fillB_len]; omega)]; simp [e]
theorem gi_cast {Q : List Nat} {i u : Nat} (h : Q[i]? = some u) : gi (Q.map fun (x : Nat) => (x : Int)) i = (u : Int) := by
  obtain ⟨hl, e⟩ := List.getElem?_eq_some_iff.1 h
  rw [gi_get (by simpa using hl)]
  simp [e]
theorem RB.blk_lt {w : World} {b off n c : Nat} {xs : List Bool} (h : RB w (some ⟨b, off, none⟩) n c xs) {i : Nat} (hi : i < n) : b < w.heap.size := by
  obtain ⟨b', o', e, hc⟩ := h.at_ hi
  injection e with e
  injection e with e1 e2
  subst e1
  exact cell_lt hc
theorem RI.blk_lt {w : World} {b off n c : Nat} {xs : List Int} (h : RI w (some ⟨b, off, none⟩) n c xs) {i : Nat} (hi : i < n) : b < w.heap.size := by
  obtain ⟨b', o', e, hc⟩ := h.at_ hi
  injection e with e
  injection e with e1 e2
  subst e1
  exact cell_lt hc
theorem wpList_pushH {ops : Array Oper} {rest : List Oper} {o : Oper} {a : Act} {Q : Exit → Act → World → Prop} (hgd : o.guard = none) (s x : Operand)
    (ho : o.op = .call { callee := .builtin .append, args := #[s, x], argTypes := #[27, 27] })
    (w : World) (H : Nat) (hH : w.heap.size = H) (lo : Nat) (v : Value) (xs : List Int) (hs : a.eval s = v) (hown : OI 2 w lo v xs) (y : Int) (hx : a.eval x = .slice (some ⟨H, 0, none⟩) 1 1)
    (hn : xs.length ≤ 4194304) (hlo : lo ≤ H)
    (h : ∀ v' w', OI 2 w' lo v' (xs ++ [y]) → Below lo w w' → Chg (fun z => v.ownBlock = some z) w w' → (∀ b, v'.ownBlock = some b → v.ownBlock = some b ∨ w.heap.size ≤ b) →
      wpList Try.prog ops Q rest (a.put o.dst v') w') : wpList Try.prog ops Q (o :: rest) a (w.alloc (.cells #[.int .i64 y] 2)) := by
  subst hH
  exact wpList_pushI hgd s x ho w lo v xs hs hown y hx hn hlo h
theorem RB.offB {w : World} {b off n c k : Nat} {xs : List Bool} {g : Nat} (h : RB w (some ⟨b, off, none⟩) n c xs) (hne : b ≠ g) (u : Value) : RB (w.setCell ⟨g, k, none⟩ u) (some ⟨b, off, none⟩) n c xs := by
  refine ⟨h.1, h.2.1, fun i hi => ?_⟩
  obtain ⟨b', o', e, hc⟩ := h.at_ hi
  injection e with e
  injection e with e1 e2
  subst e1; subst e2
  refine ⟨b, off, rfl, ?_⟩
  rw [World.cell?_setCell_other]
  · exact hc
  · exact fun h => hne (by injection h with h1; exact h1.symm)
def q0 (ins goal : List Bool) (k : Nat) : List Nat := (List.range k).filter fun v => gb ins v && gb goal v
theorem q0_yes {ins goal : List Bool} {k : Nat} (h : (gb ins k && gb goal k) = true) : q0 ins goal (k + 1) = q0 ins goal k ++ [k] := by
  unfold q0; rw [List.range_succ, List.filter_append]; simp only [List.filter_cons, h, List.filter_nil, if_true]
theorem q0_no {ins goal : List Bool} {k : Nat} (h : (gb ins k && gb goal k) = false) : q0 ins goal (k + 1) = q0 ins goal k := by
  unfold q0; rw [List.range_succ, List.filter_append]; simp only [List.filter_cons, h, List.filter_nil]; simp
theorem q0_len (ins goal : List Bool) (k : Nat) : (q0 ins goal k).length ≤ k := by
  unfold q0; have := List.length_filter_le (fun v => gb ins v && gb goal v) (List.range k); simpa using this
def fl0 (g : S7) (ins : List Bool) (v : Nat) : Int := if gb ins v = true then ((dgN g ins v : Nat) : Int) else 0
theorem AI.start {g : S7} {N : Nat} (hf : fine7 g N) {ins goal : List Bool} (who : Int) : AI g N ins goal who (fillB (fun v => gb ins v && gb goal v) N N) (fillUp (fl0 g ins) N (fun _ => 0) N) (q0 ins goal N) 0 0 := by
  have hb : ∀ v, gb (fillB (fun v => gb ins v && gb goal v) N N) v = true ↔ v < N ∧ (gb ins v && gb goal v) = true := fun v => fillB_iff
  have hd : ∀ u v, dn g N (q0 ins goal N) 0 0 u v = false := fun u v => by unfold dn; simp
  refine ⟨fillB_len _ _ _, fillUp_len _ _ _ _, List.Nodup.sublist List.filter_sublist List.nodup_range, fun v => ?_, fun v hv => ?_, fun v hv h1 h2 => ?_, fun v hv h1 _ => ?_, fun j v hj hg => ?_, fun v _ _ _ u _ _ _ hdn => ?_⟩
  · rw [hb]; simp [q0]
  · have := ((hb v).1 hv).2
    simp at this; exact this.1
  · exact (hb v).2 ⟨hv, by simp [h1, h2]⟩
  · rw [fillUp_full, fill_at hv]
    unfold fl0
    rw [if_pos h1, dgN_cn hf ins hv]
    congr 1
    exact cn_congr fun x _ => by rw [hd]; simp
  · have hm := List.mem_of_getElem? hj
    simp [q0] at hm
    rw [hm.2.2] at hg; cases hg
  · rw [hd] at hdn; cases hdn


set_option maxRecDepth 100000 in
set_option maxHeartbeats 3200000 in
theorem l7Attract (s0 s1 s2 s3 s4 : Value) (g : S7) (N : Nat) (I J : Option Addr) (ci cj : Nat) (ins goal : List Bool) (who : Int) (w : World) (B : Nat) (hB : B ≤ w.heap.size) (ha : R7 w s0 s1 s2 s3 s4 g) (hi : RB w I N ci ins) (hj : RB w J N cj goal) (hf : fine7 g N) :
    Calls Try.prog 82 #[.agg #[s0, s1, s2, s3, s4], .slice I N ci, .int .i64 who, .slice J N cj] w fun e w' => ∃ v out, e = .returned v ∧ OB 4 w' B v out ∧ (out.length = N ∧ (∀ v, gb out v = true → gb ins v = true) ∧ ∃ rk, AttrIn (pgOf g) (InS N ins) who (fun v => gb goal v = true) (fun v => gb out v = true) rk) ∧ Below B w w' := by
  obtain ⟨A0, n0, c0, A1, n1, c1, A2, n2, c2, A3, n3, c3, A4, n4, c4, rfl, rfl, rfl, rfl, rfl, r0, r1, r2, r3, r4⟩ := ha.form
  have bx := Box.new w 76 #[.slice A0 n0 c0, .slice A1 n1 c1, .slice A2 n2 c2, .slice A3 n3 c3, .slice A4 n4 c4]
  have hba : Below w.heap.size w (w.alloc (.cells #[.slice A0 n0 c0, .slice A1 n1 c1, .slice A2 n2 c2, .slice A3 n3 c3, .slice A4 n4 c4] 76)) := below_alloc (Nat.le_refl _) (Below.refl _ _)
  have har := ha
  have b1 := r0.cap; have b2 := r0.top; have b3 := r3.cap; have b4 := r3.top; have b5 := hi.cap; have b6 := hi.top; have b7 := hj.cap; have b8 := hj.top
  have hN1 := hf.n1; have hN2 := hf.n2
  have H0 := Lib.hid (show n0 = N by rw [← r0.len, hf.lo]); have H3 := Lib.hid (show n3 = N by rw [← r3.len, hf.lr])
  have HF := Lib.hid hf
  have HZ := Lib.hid (show (w.alloc (.cells #[.slice A0 n0 c0, .slice A1 n1 c1, .slice A2 n2 c2, .slice A3 n3 c3, .slice A4 n4 c4] 76)).heap.size = w.heap.size + 1 by simp)
  clear hf
  go_enter Try.func82, Try.ntmps82
  go_wp2_with (first
    | (refine wpList_makeB rfl (.tmp 18) rfl _ N rfl (by omega) ?_; intro w1 ho1 hb1; rw [HZ.out] at ho1 ⊢; have bx1 := bx.on hb1; have hw1 := below_then hb1 hba.size hba; have hl1 : w.heap.size + 1 < w1.heap.size := (ho1.lt _ rfl).2; clear bx hba hb1)
    | (refine wpList_makeI rfl (.tmp 21) rfl _ N rfl (by omega) ?_; intro w2 ho2 hb2; have bx2 := bx1.on hb2; have hw2 := below_then hb2 hw1.size hw1; have ho12 := ho1.below hb2; have hl2 : w1.heap.size < w2.heap.size := (ho2.lt _ rfl).2; clear bx1 hw1 ho1 hb2))
  have hbE : Below w2.heap.size w2 (w2.alloc (.cells #[] 2)) := below_alloc (Nat.le_refl _) (Below.refl _ _)
  go_loopw [11, 12] (fun vq i wr => ∃ k : Nat, k ≤ N ∧ i = .int .i64 k ∧ w2.heap.size ≤ wr.heap.size ∧ OI 2 wr w2.heap.size vq ((q0 ins goal k).map fun (x : Nat) => (x : Int)) ∧ OB 4 wr (w.heap.size + 1) (.slice (some ⟨w.heap.size + 1, 0, none⟩) N N) (fillB (fun v => gb ins v && gb goal v) N k) ∧ OI 2 wr w1.heap.size (.slice (some ⟨w1.heap.size, 0, none⟩) N N) (fillUp (fl0 g ins) N (fun _ => 0) k) ∧ Box wr w.heap.size 76 #[.slice A0 n0 c0, .slice A1 n1 c1, .slice A2 n2 c2, .slice A3 n3 c3, .slice A4 n4 c4] ∧ Below w.heap.size w wr) (fun _ i _ => N - (intOf i).toNat)
  case atStart => exact ⟨0, Nat.zero_le _, rfl, hbE.size, OI.empty (Nat.le_refl _), by rw [fillB_zero]; exact ho12.below hbE, by rw [fillUp_zero, ← fill_zeros]; exact ho2.below hbE, bx2.on hbE, below_then hbE hw2.size hw2⟩
  case round =>
    clear ho12 ho2 bx2 hbE hw2
    obtain ⟨k, hk, rfl, hszr, hq, ho, hl, bx, hbr⟩ := hrel
    have hql := q0_len ins goal k
    have hql2 : ((q0 ins goal k).map fun (x : Nat) => (x : Int)).length ≤ 4194304 := by rw [List.length_map]; omega
    have q0_ := bx.e0; have q1 := bx.e1; have q2 := bx.e2; have q3 := bx.e3; have q4 := bx.e4
    by_cases hlt : k < N
    · obtain ⟨bi, oi, rfl, hci⟩ := (hi.keep (keeps_below hbr)).at_ hlt
      obtain ⟨bj, oj, rfl, hcj⟩ := (hj.keep (keeps_below hbr)).at_ hlt
      have lbi : bi < w.heap.size := hi.blk_lt hlt
      have lbj : bj < w.heap.size := hj.blk_lt hlt
      have ne1 : ¬ w1.heap.size = bi := by omega
      have ne2 : ¬ w1.heap.size = bj := by omega
      have ne3 : ¬ w.heap.size + 1 = bi := by omega
      have ne4 : ¬ w.heap.size + 1 = bj := by omega
      have nLO : ¬ w1.heap.size = w.heap.size + 1 := by omega
      have nOL : ¬ w.heap.size + 1 = w1.heap.size := by omega
      have hki : (k : Int) < (N : Int) := by omega
      have hk0 : (0 : Int) ≤ (k : Int) := by omega
      cases h1 : gb ins k with
      | false =>
        rw [h1] at hci
        have HQ := Lib.hid (show q0 ins goal (k + 1) = q0 ins goal k from q0_no (by rw [h1]; rfl))
        have HO := Lib.hid (show fillB (fun v => gb ins v && gb goal v) N (k + 1) = fillB (fun v => gb ins v && gb goal v) N k from fillB_keep (by show (gb ins k && gb goal k) = false; rw [h1]; rfl))
        have HL := Lib.hid (show fillUp (fl0 g ins) N (fun _ => 0) (k + 1) = fillUp (fl0 g ins) N (fun _ => 0) k from fillUp_same (by unfold fl0; rw [if_neg (by rw [h1]; simp)]))
        clear h1
        go_wp2
        go_roundw
        case rel => exact ⟨k + 1, by omega, by go_num, hszr, by rw [HQ.out]; exact hq, by rw [HO.out]; exact ho, by rw [HL.out]; exact hl, bx, hbr⟩
        case measure => simp [intOf]; omega
      | true =>
        rw [h1] at hci
        have HL := Lib.hid (show fillUp (fl0 g ins) N (fun _ => 0) (k + 1) = (fillUp (fl0 g ins) N (fun _ => 0) k).set k ((dgN g ins k : Nat) : Int) by rw [← fillUp_put hlt]; unfold fl0; rw [if_pos h1])
        have H1 := Lib.hid h1
        go_wp2_with fail
        refine (l7Degree _ _ _ _ _ g N _ _ ins k _ _ (Nat.le_refl _) (har.keep (keeps_below hbr)) (hi.keep (keeps_below hbr)) HF.out hlt).mono ?_; rintro e w4 ⟨rfl, hb4⟩
        have bx4 := bx.on hb4
        have hq4 := hq.below hb4; have ho4 := ho.below hb4; have hl4 := hl.below hb4
        have hw4 := below_then hb4 hbr.size hbr
        have hs4 : w2.heap.size ≤ w4.heap.size := Nat.le_trans hszr hb4.size
        have hci4 := keeps_below hb4 _ _ hci; have hcj4 := keeps_below hb4 _ _ hcj
        have hlc := hl4.cellAt (i := k) (by rw [fillUp_len]; exact hlt)
        have hlf := hl4.hot (i := k) (by rw [fillUp_len])
        have hoc := ho4.at_ (i := k) (by rw [fillB_len]; exact hlt)
        have hof := ho4.hot (i := k) (by rw [fillB_len])
        have hqm : ∀ b, (u11).ownBlock = some b → w2.heap.size ≤ b := fun b hb => (hq4.lt b hb).1
        clear q0_ q1 q2 q3 q4 bx hq ho hl hci hcj h1
        cases h2 : gb goal k with
        | false =>
          rw [h2] at hcj4
          have HQ := Lib.hid (show q0 ins goal (k + 1) = q0 ins goal k from q0_no (by rw [h2, Bool.and_false]))
          have HO := Lib.hid (show fillB (fun v => gb ins v && gb goal v) N (k + 1) = fillB (fun v => gb ins v && gb goal v) N k from fillB_keep (by show (gb ins k && gb goal k) = false; rw [h2, Bool.and_false]))
          clear h2
          go_wp2
          go_roundw
          case rel => exact ⟨k + 1, by omega, by go_num, by simpa using hs4, by rw [HQ.out]; exact hq4.chg (Chg.set ⟨w1.heap.size, k, none⟩ _) (fun b hb e => by have h3 : b = w1.heap.size := e; have := hqm b hb; omega), by rw [HO.out]; exact ho4.off (by show w.heap.size + 1 ≠ w1.heap.size; omega) _, by rw [HL.out]; exact hl4.set_ (by rw [fillUp_len]) _, bx4.far (by show w.heap.size ≠ w1.heap.size; omega) _, below_set (by show w.heap.size ≤ w1.heap.size; omega) hw4⟩
          case measure => simp [intOf]; omega
        | true =>
          rw [h2] at hcj4
          have HQ := Lib.hid (show (q0 ins goal (k + 1)).map (fun (x : Nat) => (x : Int)) = (q0 ins goal k).map (fun (x : Nat) => (x : Int)) ++ [(k : Int)] by rw [q0_yes (by rw [H1.out, h2]; rfl), List.map_append]; rfl)
          have HO := Lib.hid (show fillB (fun v => gb ins v && gb goal v) N (k + 1) = (fillB (fun v => gb ins v && gb goal v) N k).set k true by rw [← fillB_put hlt]; show (fillB (fun v => gb ins v && gb goal v) N k).set k (gb ins k && gb goal k) = _; rw [H1.out, h2]; rfl)
          clear h2
          go_wp2_with (at_builtin; go_loud (refine wpList_pushH rfl (.tmp 54) (.tmp 56) rfl _ w4.heap.size (by simp) w2.heap.size u11 _ (by rfl) ((hq4.chg (Chg.set ⟨w1.heap.size, k, none⟩ _) (fun b hb e => by have h3 : b = w1.heap.size := e; have := hqm b hb; omega)).chg (Chg.set ⟨w.heap.size + 1, k, none⟩ _) (fun b hb e => by have h3 : b = w.heap.size + 1 := e; have := hqm b hb; omega)) _ (by rfl) hql2 hs4 ?_); intro v5 w5 hq5 hb5 hc5 hat5)
          have hs5 : w2.heap.size ≤ w5.heap.size := Nat.le_trans (by simpa using hs4) hc5.size
          have ho5 := (((ho4.off (p := ⟨w1.heap.size, k, none⟩) (by show w.heap.size + 1 ≠ w1.heap.size; omega) (.int .i64 ((dgN g ins k : Nat) : Int))).set_ (by rw [fillB_len]) true).chg hc5 (fun b hb e => by have h4 : some (w.heap.size + 1) = some b := hb; injection h4 with h4; have := hqm b e; omega))
          have hl5 := (((hl4.set_ (i := k) (by rw [fillUp_len]) ((dgN g ins k : Nat) : Int)).off (p := ⟨w.heap.size + 1, k, none⟩) (by show w1.heap.size ≠ w.heap.size + 1; omega) (.bool true)).chg hc5 (fun b hb e => by have h4 : some w1.heap.size = some b := hb; injection h4 with h4; have := hqm b e; omega))
          have bx5 : Box w5 w.heap.size 76 #[.slice A0 n0 c0, .slice A1 n1 c1, .slice A2 n2 c2, .slice A3 n3 c3, .slice A4 n4 c4] := (hc5.block _ (by simpa using bx4.lt) (fun e => by have := hqm _ e; omega)).trans ((bx4.far (p := ⟨w1.heap.size, k, none⟩) (by show w.heap.size ≠ w1.heap.size; omega) _).far (p := ⟨w.heap.size + 1, k, none⟩) (by show w.heap.size ≠ w.heap.size + 1; omega) _)
          have hw5 := (below_set (p := ⟨w.heap.size + 1, k, none⟩) (u := .bool true) (by show w.heap.size ≤ w.heap.size + 1; omega) (below_set (p := ⟨w1.heap.size, k, none⟩) (u := .int .i64 ((dgN g ins k : Nat) : Int)) (by show w.heap.size ≤ w1.heap.size; omega) hw4)).trans (hb5.mono (by omega))
          have HQ5 := Lib.hid hq5; have HO5 := Lib.hid ho5; have HL5 := Lib.hid hl5
          clear hq5 ho5 hl5
          go_wp2
          go_roundw
          case rel => exact ⟨k + 1, by omega, by go_num, hs5, by rw [HQ.out]; exact HQ5.out, by rw [HO.out]; exact HO5.out, by rw [HL.out]; exact HL5.out, bx5, hw5⟩
          case measure => simp [intOf]; omega
    · obtain rfl : k = N := by omega
      obtain ⟨N, rfl⟩ : ∃ N : Nat, N = k := ⟨_, rfl⟩
      have hAI := AI.start HF.out (ins := ins) (goal := goal) who
      rename World => wp
      generalize fillB (fun v => gb ins v && gb goal v) N N = out at *
      generalize fillUp (fl0 g ins) N (fun _ => 0) N = left at *
      generalize q0 ins goal N = Q at *
      clear q0_ q1 q2 q3 q4 hql hql2
      go_wp2
      go_loopw [11, 13] (fun vq i wr => ∃ (t : Nat) (Q : List Nat) (out : List Bool) (left : List Int), t ≤ Q.length ∧ i = .int .i64 t ∧ Hid (AI g N ins goal who out left Q t 0) ∧ w2.heap.size ≤ wr.heap.size ∧ OI 2 wr w2.heap.size vq (Q.map (fun (x : Nat) => (x : Int))) ∧ OB 4 wr (w.heap.size + 1) (.slice (some ⟨w.heap.size + 1, 0, none⟩) N N) (out) ∧ OI 2 wr w1.heap.size (.slice (some ⟨w1.heap.size, 0, none⟩) N N) (left) ∧ Box wr w.heap.size 76 #[.slice A0 n0 c0, .slice A1 n1 c1, .slice A2 n2 c2, .slice A3 n3 c3, .slice A4 n4 c4] ∧ Below w.heap.size w wr) (fun _ i _ => N - (intOf i).toNat)
      case atStart => exact ⟨0, Q, out, left, Nat.zero_le _, rfl, Lib.hid hAI, hszr, hq, ho, hl, bx, hbr⟩
      case round =>
        clear hAI hszr hq ho hl bx hbr
        obtain ⟨t, Q, out, left, ht, rfl, HA, hszr, hq, ho, hl, bx, hbr⟩ := hrel
        have hQN := HA.out.qlen
        obtain ⟨Aq, cq, hv⟩ := hq.form
        rw [List.length_map] at hv
        subst hv
        by_cases hlt : t < Q.length
        · obtain ⟨u, hu⟩ : ∃ u, Q[t]? = some u := ⟨Q[t], List.getElem?_eq_getElem hlt⟩
          have HU := Lib.hid hu
          have hun : u < N := ((HA.out.mem u).1 (List.mem_of_getElem? hu)).1
          obtain ⟨bq, oq, rfl, hcq⟩ := hq.reads.at_ (i := t) hlt
          rw [gi_cast hu] at hcq
          have hu3 : u < n3 := by rw [H3.out]; exact hun
          obtain ⟨bp, op, Ap, np, cp, rfl, hcp, rp⟩ := r3.at_ hu3
          have hpv := HF.out.prev u hun
          have HP := Lib.hid (show np = (pvN g N u).length by rw [← rp.len, hpv, List.length_map])
          have HPV := Lib.hid hpv
          have hnp : np ≤ N := by rw [HP.out]; have := List.length_filter_le (fun v => hasL (gl g.n v) (u : Int)) (List.range N); simpa [pvN] using this
          have d1 := rp.cap; have d2 := rp.top
          have hti : (t : Int) < (Q.length : Int) := by omega
          have ht0 : (0 : Int) ≤ (t : Int) := by omega
          have hui : (u : Int) < (n3 : Int) := by omega
          have hu0 : (0 : Int) ≤ (u : Int) := by omega
          have lbp : bp < w.heap.size := cell_lt hcp
          clear hu hpv
          go_wp2
          go_loopw [11, 15] (fun vq i wr => ∃ (k : Nat) (Q : List Nat) (out : List Bool) (left : List Int), k ≤ np ∧ i = .int .i64 k ∧ Hid (Q[t]? = some u ∧ AI g N ins goal who out left Q t k) ∧ w2.heap.size ≤ wr.heap.size ∧ OI 2 wr w2.heap.size vq (Q.map (fun (x : Nat) => (x : Int))) ∧ OB 4 wr (w.heap.size + 1) (.slice (some ⟨w.heap.size + 1, 0, none⟩) N N) (out) ∧ OI 2 wr w1.heap.size (.slice (some ⟨w1.heap.size, 0, none⟩) N N) (left) ∧ Box wr w.heap.size 76 #[.slice A0 n0 c0, .slice A1 n1 c1, .slice A2 n2 c2, .slice (some ⟨bp, op, none⟩) n3 c3, .slice A4 n4 c4] ∧ Below w.heap.size w wr) (fun _ i _ => np - (intOf i).toNat)
          case atStart => exact ⟨0, Q, out, left, Nat.zero_le _, rfl, Lib.hid ⟨HU.out, HA.out⟩, hszr, hq, ho, hl, bx, hbr⟩
          case round =>
            clear HA hszr hq ho hl bx hbr HU hlt hQN ht hti hcq
            obtain ⟨k, Q, out, left, hk, rfl, HA, hszr, hq, ho, hl, bx, hbr⟩ := hrel
            have hQN := HA.out.2.qlen
            have hql2 : (Q.map (fun (x : Nat) => (x : Int))).length ≤ 4194304 := by rw [List.length_map]; omega
            have q0_ := bx.e0; have q1 := bx.e1; have q2 := bx.e2; have q3 := bx.e3; have q4 := bx.e4
            have kp := below_cell hbr hcp
            have hqm : ∀ b, (u11).ownBlock = some b → w2.heap.size ≤ b := fun b hb => (hq.lt b hb).1
            by_cases hlk : k < np
            · obtain ⟨v, hv⟩ : ∃ v, (pvN g N u)[k]? = some v := ⟨(pvN g N u)[k]'(by rw [← HP.out]; exact hlk), List.getElem?_eq_getElem _⟩
              have hvN : v < N := (mem_pv.1 (List.mem_of_getElem? hv)).1
              obtain ⟨br, or_, rfl, hcr⟩ := (rp.keep (keeps_below hbr)).at_ hlk
              rw [HPV.out, gi_cast hv] at hcr
              have HV := Lib.hid hv
              clear hv
              obtain ⟨bi, oi, rfl, hci⟩ := (hi.keep (keeps_below hbr)).at_ hvN
              have lbi : bi < w.heap.size := hi.blk_lt hvN
              have hvi : (v : Int) < (N : Int) := by omega
              have hv0 : (0 : Int) ≤ (v : Int) := by omega
              have hki : (k : Int) < (np : Int) := by omega
              have hk0 : (0 : Int) ≤ (k : Int) := by omega
              have hv0n : v < n0 := by rw [H0.out]; exact hvN
              have hvi0 : (v : Int) < (n0 : Int) := by omega
              cases h1 : gb ins v with
              | false =>
                rw [h1] at hci
                have HA2 := Lib.hid (show Q[t]? = some u ∧ AI g N ins goal who out left Q t (k + 1) from ⟨HA.out.1, HA.out.2.skip HA.out.1 HV.out (.inl h1)⟩)
                clear h1 HA
                go_wp2
                go_roundw
                case rel => exact ⟨k + 1, Q, out, left, by omega, by go_num, HA2, hszr, hq, ho, hl, bx, hbr⟩
                case measure => simp [intOf]; omega
              | true =>
                rw [h1] at hci
                have hoc := ho.at_ (i := v) (by rw [HA.out.2.lo]; exact hvN)
                cases h2 : gb out v with
                | true =>
                  rw [h2] at hoc
                  have HA2 := Lib.hid (show Q[t]? = some u ∧ AI g N ins goal who out left Q t (k + 1) from ⟨HA.out.1, HA.out.2.skip HA.out.1 HV.out (.inr (.inl h2))⟩)
                  clear h1 h2 HA
                  go_wp2
                  go_roundw
                  case rel => exact ⟨k + 1, Q, out, left, by omega, by go_num, HA2, hszr, hq, ho, hl, bx, hbr⟩
                  case measure => simp [intOf]; omega
                | false =>
                  rw [h2] at hoc
                  have H1 := Lib.hid h1; have H2 := Lib.hid h2
                  clear h1 h2
                  go_wp2_with fail
                  refine (l7Edge _ _ _ _ _ g N v u _ _ (Nat.le_refl _) (har.keep (keeps_below hbr)) HF.out hvN).mono ?_; rintro e w4 ⟨rfl, hb4⟩
                  have bx4 := bx.on hb4
                  have hq4 := hq.below hb4; have ho4 := ho.below hb4; have hl4 := hl.below hb4
                  have hw4 := below_then hb4 hbr.size hbr
                  have hs4 : w2.heap.size ≤ w4.heap.size := Nat.le_trans hszr hb4.size
                  clear q0_ q1 q2 q3 q4 kp bx hq ho hl hci hcr hoc
                  cases h3 : pk g v u with
                  | false =>
                    have HA2 := Lib.hid (show Q[t]? = some u ∧ AI g N ins goal who out left Q t (k + 1) from ⟨HA.out.1, HA.out.2.skip HA.out.1 HV.out (.inr (.inr h3))⟩)
                    clear h3 HA
                    go_wp2
                    go_roundw
                    case rel => exact ⟨k + 1, Q, out, left, by omega, by go_num, HA2, hs4, hq4, ho4, hl4, bx4, hw4⟩
                    case measure => simp [intOf]; omega
                  | true =>
                    have hdec := HA.out.2.dec HA.out.1 HV.out H1.out H2.out h3
                    have hcl := cn_le N (fun x => gb ins x && ed g v x && !dn g N Q t (k + 1) x v)
                    have hd0 : 1 ≤ gi left v := by omega
                    have hd1 : gi left v ≤ 257 := by omega
                    have H3_ := Lib.hid h3
                    clear hdec hcl h3
                    have hlc := hl4.cellAt (i := v) (by rw [HA.out.2.ll]; exact hvN)
                    have hlf := hl4.hot (i := v) (by rw [HA.out.2.ll])
                    have hoc := ho4.at_ (i := v) (by rw [HA.out.2.lo]; exact hvN)
                    have hof := ho4.hot (i := v) (by rw [HA.out.2.lo])
                    obtain ⟨bo, oo, rfl, hco⟩ := (r0.keep (keeps_below hw4)).at_ hv0n
                    have lbo : bo < w.heap.size := r0.blk_lt hv0n
                    have q0_ := bx4.e0
                    have ne0 : ¬ w1.heap.size = w.heap.size := by omega
                    have ne1 : ¬ w1.heap.size = bo := by omega
                    have ne2 : ¬ w.heap.size + 1 = w1.heap.size := by omega
                    have ne3 : ¬ w1.heap.size = w.heap.size + 1 := by omega
                    by_cases hadd : gi g.o v = who ∨ gi left v - 1 = 0
                    · have HA2 := Lib.hid (show (Q ++ [v])[t]? = some u ∧ AI g N ins goal who (out.set v true) (left.set v (gi left v - 1)) (Q ++ [v]) t (k + 1) from ⟨by rw [List.getElem?_append_left (List.getElem?_eq_some_iff.1 HA.out.1).1]; exact HA.out.1, HA.out.2.add HA.out.1 HV.out H1.out H2.out H3_.out hadd⟩)
                      have HLO := Lib.hid HA.out.2.lo; have HLL := Lib.hid HA.out.2.ll
                      have HQ := Lib.hid (show (Q ++ [v]).map (fun (x : Nat) => (x : Int)) = Q.map (fun (x : Nat) => (x : Int)) ++ [(v : Int)] by rw [List.map_append]; rfl)
                      clear HA
                      have fin : ∀ (w5 : World) (v5 : Value), OI 2 w5 w2.heap.size v5 (Q.map (fun (x : Nat) => (x : Int)) ++ [(v : Int)]) → Below w2.heap.size ((w4.setCell ⟨w1.heap.size, v, none⟩ (.int .i64 (gi left v - 1))).setCell ⟨w.heap.size + 1, v, none⟩ (.bool true)) w5 → Chg (fun z => (u11).ownBlock = some z) ((w4.setCell ⟨w1.heap.size, v, none⟩ (.int .i64 (gi left v - 1))).setCell ⟨w.heap.size + 1, v, none⟩ (.bool true)) w5 →
                          w2.heap.size ≤ w5.heap.size ∧ OI 2 w5 w2.heap.size v5 ((Q ++ [v]).map (fun (x : Nat) => (x : Int))) ∧ OB 4 w5 (w.heap.size + 1) (.slice (some ⟨w.heap.size + 1, 0, none⟩) N N) (out.set v true) ∧ OI 2 w5 w1.heap.size (.slice (some ⟨w1.heap.size, 0, none⟩) N N) (left.set v (gi left v - 1)) ∧ Box w5 w.heap.size 76 #[.slice (some ⟨bo, oo, none⟩) n0 c0, .slice A1 n1 c1, .slice A2 n2 c2, .slice (some ⟨bp, op, none⟩) n3 c3, .slice A4 n4 c4] ∧ Below w.heap.size w w5 := by
                        intro w5 v5 hq5 hb5 hc5
                        refine ⟨Nat.le_trans (by simpa using hs4) hc5.size, by rw [HQ.out]; exact hq5, ?_, ?_, ?_, ?_⟩
                        · exact ((ho4.off (p := ⟨w1.heap.size, v, none⟩) (by show w.heap.size + 1 ≠ w1.heap.size; omega) (.int .i64 (gi left v - 1))).set_ (by rw [HLO.out]) true).chg hc5 (fun b hb e => by have h4 : some (w.heap.size + 1) = some b := hb; injection h4 with h4; have := hqm b e; omega)
                        · exact ((hl4.set_ (i := v) (by rw [HLL.out]) (gi left v - 1)).off (p := ⟨w.heap.size + 1, v, none⟩) (by show w1.heap.size ≠ w.heap.size + 1; omega) (.bool true)).chg hc5 (fun b hb e => by have h4 : some w1.heap.size = some b := hb; injection h4 with h4; have := hqm b e; omega)
                        · exact (hc5.block _ (by simpa using bx4.lt) (fun e => by have := hqm _ e; omega)).trans ((bx4.far (p := ⟨w1.heap.size, v, none⟩) (by show w.heap.size ≠ w1.heap.size; omega) _).far (p := ⟨w.heap.size + 1, v, none⟩) (by show w.heap.size ≠ w.heap.size + 1; omega) _)
                        · exact (below_set (p := ⟨w.heap.size + 1, v, none⟩) (u := .bool true) (by show w.heap.size ≤ w.heap.size + 1; omega) (below_set (p := ⟨w1.heap.size, v, none⟩) (u := .int .i64 (gi left v - 1)) (by show w.heap.size ≤ w1.heap.size; omega) hw4)).trans (hb5.mono (by omega))
                      have HFin := Lib.hid fin
                      clear fin
                      by_cases how : gi g.o v = who
                      · have hne : (gi g.o v == who) = true := by simp [how]
                        clear how hadd
                        go_wp2_with (at_builtin; go_loud (refine wpList_pushH rfl (.tmp 127) (.tmp 129) rfl _ w4.heap.size (by simp) w2.heap.size u11 _ (by rfl) ((hq4.chg (Chg.set ⟨w1.heap.size, v, none⟩ _) (fun b hb e => by have h3 : b = w1.heap.size := e; have := hqm b hb; omega)).chg (Chg.set ⟨w.heap.size + 1, v, none⟩ _) (fun b hb e => by have h3 : b = w.heap.size + 1 := e; have := hqm b hb; omega)) _ (by rfl) hql2 hs4 ?_); intro v5 w5 hq5 hb5 hc5 hat5)
                        have HR5 := Lib.hid (HFin.out _ _ hq5 hb5 hc5)
                        clear hq5 hb5 hc5 hat5
                        go_wp2
                        go_roundw
                        case rel => exact ⟨k + 1, Q ++ [v], out.set v true, left.set v (gi left v - 1), by omega, by go_num, HA2, HR5.out⟩
                        case measure => simp [intOf]; omega
                      · have hne : (gi g.o v == who) = false := by simp [how]
                        have hz := hadd.resolve_left how
                        have hz1 : gi left v = 1 := by omega
                        have hz2 : (gi left v - 1 == 0) = true := by simp [hz]
                        have HZ1 := Lib.hid hz1
                        clear how hadd hz hz1
                        go_wp2_with (at_builtin; go_loud (refine wpList_pushH rfl (.tmp 127) (.tmp 129) rfl _ w4.heap.size (by simp) w2.heap.size u11 _ (by rfl) ((hq4.chg (Chg.set ⟨w1.heap.size, v, none⟩ _) (fun b hb e => by have h3 : b = w1.heap.size := e; have := hqm b hb; omega)).chg (Chg.set ⟨w.heap.size + 1, v, none⟩ _) (fun b hb e => by have h3 : b = w.heap.size + 1 := e; have := hqm b hb; omega)) _ (by rfl) hql2 hs4 ?_); intro v5 w5 hq5 hb5 hc5 hat5)
                        have HR5 := Lib.hid (HFin.out _ _ hq5 hb5 hc5)
                        clear hq5 hb5 hc5 hat5
                        go_wp2
                        go_roundw
                        case rel => exact ⟨k + 1, Q ++ [v], out.set v true, left.set v (gi left v - 1), by omega, by go_num, HA2, HR5.out⟩
                        case measure => simp [intOf]; omega
                    · have how : gi g.o v ≠ who := fun h => hadd (.inl h)
                      have hz : gi left v - 1 ≠ 0 := fun h => hadd (.inr h)
                      have hne : (gi g.o v == who) = false := by simp [how]
                      have hz2 : (gi left v - 1 == 0) = false := by rw [beq_eq_false_iff_ne]; exact hz
                      have HA2 := Lib.hid (show Q[t]? = some u ∧ AI g N ins goal who out (left.set v (gi left v - 1)) Q t (k + 1) from ⟨HA.out.1, HA.out.2.keep HA.out.1 HV.out H1.out H2.out H3_.out how hz⟩)
                      have HLL := Lib.hid HA.out.2.ll
                      clear HA how hz hadd
                      go_wp2
                      go_roundw
                      case rel => exact ⟨k + 1, Q, out, _, by omega, by go_num, HA2, by simpa using hs4, hq4.chg (Chg.set ⟨w1.heap.size, v, none⟩ _) (fun b hb e => by have h3 : b = w1.heap.size := e; have := hqm b hb; omega), ho4.off (by show w.heap.size + 1 ≠ w1.heap.size; omega) _, hl4.set_ (by rw [HLL.out]) _, bx4.far (by show w.heap.size ≠ w1.heap.size; omega) _, below_set (by show w.heap.size ≤ w1.heap.size; omega) hw4⟩
                      case measure => simp [intOf]; omega
            · obtain rfl : k = np := by omega
              have HA2 := Lib.hid (HA.out.2.next HA.out.1 (by rw [← HP.out]; exact Nat.le_refl _))
              have htl : t < Q.length := (List.getElem?_eq_some_iff.1 HA.out.1).1
              clear HA
              go_wp2
              exact ⟨⟨t + 1, Q, out, left, by omega, by go_num, HA2, hszr, hq, ho, hl, bx, hbr⟩, by simp [intOf]; omega⟩
        · obtain rfl : t = Q.length := by omega
          have HR := Lib.hid (show out.length = N ∧ (∀ v, gb out v = true → gb ins v = true) ∧ ∃ rk, AttrIn (pgOf g) (InS N ins) who (fun v => gb goal v = true) (fun v => gb out v = true) rk from ⟨HA.out.lo, HA.out.sub, _, HA.out.fin (Nat.le_refl _) (ed_lt HF.out)⟩)
          clear HA
          go_wp2
          go_ret
          exact ⟨_, out, rfl, ho.more (by omega), HR.out, hbr.mono hB⟩
end Go.Proofs.Ytblmcmccdeelgaa
namespace Go.Proofs.Ytblmcmccdeelgaa
open Go.RowKit

noncomputable def clB (p : Prop) : Bool := @decide p (Classical.propDecidable _)
theorem clB_yes {p : Prop} (h : p) : clB p = true := @decide_eq_true _ (Classical.propDecidable _) h
theorem clB_iff {p : Prop} : clB p = true ↔ p := @decide_eq_true_iff _ (Classical.propDecidable _)
end Go.Proofs.Ytblmcmccdeelgaa
namespace Go.Proofs.Ytblmcmccdeelgaa
open Go.RowKit

theorem l7HasIn (A : Option Addr) (n c : Nat) (xs : List Int) (x : Int) (w : World) (ha : RI w A n c xs) :
    Calls Try.prog 83 #[.slice A n c, .int .i64 x] w fun e w' => e = .returned (.bool (hasL xs x)) ∧ Qt w w' := by
  have b1 := ha.cap; have b2 := ha.top
  go_enter Try.func83, Try.ntmps83
  go_wp2
  go_loop [5] (fun i => ∃ k : Nat, k ≤ n ∧ i = .int .i64 k ∧ (∀ j, j < k → gi xs j ≠ x)) (fun i => n - (intOf i).toNat)
  case atStart => exact ⟨0, Nat.zero_le _, rfl, by omega⟩
  case round =>
    obtain ⟨k, hk, rfl, hall⟩ := hrel
    by_cases hlt : k < n
    · obtain ⟨b, off, rfl, hc1⟩ := ha.at_ hlt
      by_cases he : gi xs k = x
      · have H := Lib.hid he
        have hne : (gi xs k == x) = true := by simp [he]
        clear he
        go_wp2
        go_ret
        exact ⟨ret_b (hasL_of ha.1 hlt H.out).symm, Qt.refl _⟩
      · have H := Lib.hid he
        have hne : (gi xs k == x) = false := by simp [he]
        clear he
        go_wp2
        go_round
        case rel => exact ⟨k + 1, by omega, by go_num, all_succ hall H.out⟩
        case measure => simp [intOf]; omega
    · go_wp2
      go_ret
      obtain rfl : k = n := by omega
      exact ⟨ret_b (hasL_no ha.1 hall).symm, Qt.refl _⟩

end Go.Proofs.Ytblmcmccdeelgaa
