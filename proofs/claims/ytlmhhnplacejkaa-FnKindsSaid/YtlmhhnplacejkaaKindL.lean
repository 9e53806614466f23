/- Who wins a tower, who wins a ring: in plain words. The contracts of TowerGame, RingGame, Solved, as FnKinds asks them. -/
import Derived.Test.YtlmhhnplacejkaaSolF
import Derived.Test.YtlmhhnplacejkaaTower
import Derived.Test.YtlmhhnplacejkaaRing
import Derived.Test.YtlmhhnplacejkaaSolJ
namespace Go.Proofs.Ytlmhhnplacejkaa

theorem gi_app_l9 {xs ys : List Int} {i : Nat} (h : i < xs.length) : gi (xs ++ ys) i = gi xs i := by simp [gi, List.getElem?_append_left h]
theorem gi_app_e9 {xs : List Int} {x : Int} : gi (xs ++ [x]) xs.length = x := by simp [gi]
theorem gi_rng (f : Nat → Int) {N v : Nat} (h : v < N) : gi ((List.range N).map f) v = f v := by simp [gi, h]
theorem gl_rng (f : Nat → List Int) {N v : Nat} (h : v < N) : gl ((List.range N).map f) v = f v := by simp [gl, h]
theorem tnx_iff {v u : Nat} : hasL (tnx v) (u : Int) = true ↔ u = v ∨ u + 1 = v := by
  rw [hasL_iff]; unfold tnx; split <;> simp <;> omega
theorem towerE {kept : Bool} {N v u : Nat} (h : v < N) : (pgD (towerUp kept N)).E v u ↔ u = v ∨ u + 1 = v := by
  show hasL (gl ((List.range N).map tnx) v) (u : Int) = true ↔ _
  rw [gl_rng _ h]; exact tnx_iff
theorem tower_own {kept : Bool} {N v : Nat} (h : v < N) : (pgD (towerUp kept N)).own v = tow kept v := gi_rng _ h
theorem tower_pr {kept : Bool} {N v : Nat} (h : v < N) : (pgD (towerUp kept N)).pr v = (v : Int) := gi_rng _ h
theorem tower_len {kept : Bool} {N : Nat} : (towerUp kept N).1.length = N := by simp [towerUp]
theorem tow_01 (kept : Bool) (v : Nat) : 0 ≤ tow kept v ∧ tow kept v ≤ 1 := by cases kept <;> simp [tow] <;> omega
theorem tnx_set {v N : Nat} (h : v < N) : setB (tnx v) (N : Int) = true := setB_true.2 fun i hi => by
  unfold tnx at hi ⊢
  split at hi
  · simp at hi; subst hi
    refine ⟨by simp [*, gi], by simp [*, gi]; omega, by omega⟩
  · rename_i hv
    simp at hi
    rcases (show i = 0 ∨ i = 1 by omega) with rfl | rfl
    · refine ⟨by simp [hv, gi]; omega, by simp [hv, gi]; omega, by omega⟩
    · refine ⟨by simp [hv, gi], by simp [hv, gi]; omega, fun _ => by simp [hv, gi]; omega⟩
theorem tower_par {kept : Bool} {N : Nat} (h1 : 1 ≤ N) (h2 : N ≤ 41) : parB (towerUp kept N) = true := by
  refine parB_yes (arB_of tower_len ⟨h1, by omega, by simp [towerUp]⟩ fun v hv => vOk_iff.2 ⟨?_, ?_, ?_⟩) ⟨by simp [towerUp], fun i hi => ?_⟩
  · rw [show gi (towerUp kept N).1 v = tow kept v from gi_rng _ hv]; exact tow_01 kept v
  · rw [show gl (towerUp kept N).2.1 v = tnx v from gl_rng _ hv]; unfold tnx; split <;> simp
  · rw [show gl (towerUp kept N).2.1 v = tnx v from gl_rng _ hv, tower_len]; exact tnx_set hv
  · have hi' : i < N := by simpa [towerUp] using hi
    rw [show gi (towerUp kept N).2.2 i = (i : Int) from gi_rng _ hi']; omega
theorem tower_kept {N v : Nat} (hN : 1 ≤ N ∧ N ≤ 41) (hv : v < N) : wonV (towerUp true N) v = (v : Int) % 2 := by
  refine won_is (finePar_of (tower_par hN.1 hN.2)) (by omega) (by rw [tower_len]; exact hv) ⟨fun x => x = v, fun x => x, ⟨?_, ?_, ?_, ?_⟩, rfl⟩
  · rintro _ rfl; show _ < (towerUp true N).1.length; rw [tower_len]; exact hv
  · rintro _ rfl _; exact ⟨(towerE hv).2 (.inl rfl), rfl⟩
  · rintro _ u rfl how _ _; rw [tower_own hv] at how; exact absurd rfl how
  · intro f q hf _ hq
    obtain ⟨m, _, e⟩ := hq.1 0
    rw [(hf m).1, tower_pr hv] at e
    rw [← e]
theorem down_le {f : Nat → Nat} (h : ∀ k, f (k + 1) ≤ f k) (a : Nat) : ∀ d, f (a + d) ≤ f a
  | 0 => Nat.le_refl _
  | d + 1 => Nat.le_trans (h (a + d)) (down_le h a d)
theorem tower_loose {N v : Nat} (hN : 1 ≤ N ∧ N ≤ 41) (hv : v < N) : wonV (towerUp false N) v = 0 := by
  refine won_is (finePar_of (tower_par hN.1 hN.2)) (.inl rfl) (by rw [tower_len]; exact hv) ⟨fun x => x < N, fun x => x - 1, ⟨?_, ?_, ?_, ?_⟩, hv⟩
  · intro x hx; show _ < (towerUp false N).1.length; rw [tower_len]; exact hx
  · intro x hx how
    rw [tower_own hx, tow_f] at how
    exact ⟨(towerE hx).2 (.inr (by omega)), show x - 1 < N by omega⟩
  · intro x u hx _ he hu; have : u < (towerUp false N).1.length := hu; rw [tower_len] at this; exact this
  · intro f q hf hs hq
    have hd : ∀ k, f (k + 1) ≤ f k := fun k => by have := (towerE (hf k).1).1 (hf k).2; omega
    obtain ⟨m, _, e⟩ := hq.1 0
    obtain ⟨m2, hm2, e2⟩ := hq.1 (m + 1)
    rw [tower_pr (hf m).1] at e
    rw [tower_pr (hf m2).1] at e2
    have h1 := down_le hd (m + 1) (m2 - (m + 1))
    rw [show m + 1 + (m2 - (m + 1)) = m2 by omega] at h1
    have h2 := hd m
    by_cases ho : (f m : Int) % 2 = 1
    · have := hs m (by rw [tower_own (hf m).1, tow_f]; omega)
      have h3 : f (m + 1) = f m - 1 := this
      omega
    · omega
theorem won_tower {kept : Bool} {N : Nat} (hN : 1 ≤ N ∧ N ≤ 41) : (wonL (towerUp kept N)).length = N ∧ ∀ v, v < N → gi (wonL (towerUp kept N)) v = if kept then (v : Int) % 2 else 0 :=
  ⟨by rw [wonL_len, tower_len], fun v hv => by
    rw [wonL_at (by rw [tower_len]; exact hv)]
    cases kept
    · exact tower_loose hN hv
    · exact tower_kept hN hv⟩

/-- top is the greatest of ps (0 of none) -/
def TopOf (ps : List Int) (top : Int) : Prop := 0 ≤ top ∧ (∀ v, v < ps.length → gi ps v ≤ top) ∧ (top = 0 ∨ ∃ v, v < ps.length ∧ gi ps v = top)
theorem topOf_nil : TopOf [] 0 := ⟨by omega, fun v hv => absurd hv (by simp), .inl rfl⟩
theorem topOf_snoc {ps : List Int} {top x : Int} (h : TopOf ps top) (hx : 0 ≤ x) : TopOf (ps ++ [x]) (if top < x then x else top) := by
  obtain ⟨h1, h2, h3⟩ := h
  refine ⟨by split <;> omega, fun v hv => ?_, ?_⟩
  · rw [List.length_append, List.length_singleton] at hv
    by_cases e : v = ps.length
    · subst e; rw [gi_app_e9]; split <;> omega
    · have := h2 v (by omega); rw [gi_app_l9 (by omega)]; split <;> omega
  · by_cases hlt : top < x
    · rw [if_pos hlt]; exact .inr ⟨ps.length, by simp, gi_app_e9⟩
    · rw [if_neg hlt]
      rcases h3 with h3 | ⟨v, hv, e⟩
      · exact .inl h3
      · exact .inr ⟨v, by rw [List.length_append]; omega, by rw [gi_app_l9 hv]; exact e⟩
theorem ring_len1 {ps : List Int} : (ringUp ps ps.length).1.length = ps.length := by simp [ringUp]
theorem ringE {ps : List Int} {v u : Nat} (h : v < ps.length) : (pgD (ringUp ps ps.length)).E v u ↔ u = (v + 1) % ps.length := by
  show hasL (gl ((List.range ps.length).map (fun (v : Nat) => [((v : Int) + 1) % (ps.length : Int)])) v) (u : Int) = true ↔ _
  rw [gl_rng _ h, hasL_iff, List.mem_singleton, show ((v : Int) + 1) % (ps.length : Int) = (((v + 1) % ps.length : Nat) : Int) by simp]
  omega
theorem ring_own {ps : List Int} {v : Nat} (h : v < ps.length) : (pgD (ringUp ps ps.length)).own v = (v : Int) % 2 := gi_rng _ h
theorem ring_pr {ps : List Int} {v : Nat} : (pgD (ringUp ps ps.length)).pr v = gi ps v := by show gi (ps.take ps.length) v = _; rw [List.take_length]
theorem ring_par {ps : List Int} (h : okRing ps = true) : parB (ringUp ps ps.length) = true := by
  obtain ⟨h1, h2, h3⟩ := of_decide_eq_true h
  refine parB_yes (arB_of ring_len1 ⟨h1, by omega, by simp [ringUp]⟩ fun v hv => vOk_iff.2 ⟨?_, ?_, ?_⟩) ⟨by simp [ringUp], fun i hi => ?_⟩
  · rw [show gi (ringUp ps ps.length).1 v = (v : Int) % 2 from gi_rng _ hv]; omega
  · rw [show gl (ringUp ps ps.length).2.1 v = [((v : Int) + 1) % (ps.length : Int)] from gl_rng _ hv]; simp
  · rw [show gl (ringUp ps ps.length).2.1 v = [((v : Int) + 1) % (ps.length : Int)] from gl_rng _ hv, ring_len1]
    refine setB_true.2 fun i hi => ?_
    simp at hi; subst hi
    have hp : (0 : Int) < (ps.length : Int) := by omega
    exact ⟨Int.emod_nonneg _ (by omega), Int.emod_lt_of_pos _ hp, by omega⟩
  · have hi' : i < ps.length := by simpa [ringUp] using hi
    rw [show gi (ringUp ps ps.length).2.2 i = gi ps i from ring_pr]; exact h3 _ (gi_mem hi')
theorem round_at {N a : Nat} (ha : a < N) {f : Nat → Nat} (h0 : f 0 = a) (h : ∀ k, f (k + 1) = (f k + 1) % N) : ∀ k, f k = (a + k) % N
  | 0 => by rw [h0, Nat.add_zero, Nat.mod_eq_of_lt ha]
  | k + 1 => by rw [h k, round_at ha h0 h k, Nat.mod_add_mod]; rfl
theorem ring_won {ps : List Int} {top : Int} (h : okRing ps = true) (ht : TopOf ps top) {v : Nat} (hv : v < ps.length) : wonV (ringUp ps ps.length) v = top % 2 := by
  obtain ⟨h1, h2, h3⟩ := of_decide_eq_true h
  have hN : 0 < ps.length := h1
  refine won_is (finePar_of (ring_par h)) (by omega) (by rw [ring_len1]; exact hv) ⟨fun x => x < ps.length, fun x => (x + 1) % ps.length, ⟨?_, ?_, ?_, ?_⟩, hv⟩
  · intro x hx; show _ < (ringUp ps ps.length).1.length; rw [ring_len1]; exact hx
  · intro x hx _; exact ⟨(ringE hx).2 rfl, Nat.mod_lt _ hN⟩
  · intro x u hx _ he hu; have : u < (ringUp ps ps.length).1.length := hu; rw [ring_len1] at this; exact this
  · intro f q hf _ hq
    have hstep : ∀ k, f (k + 1) = (f k + 1) % ps.length := fun k => (ringE (hf k).1).1 (hf k).2
    have hat := round_at (hf 0).1 rfl hstep
    obtain ⟨t, htl, hte⟩ : ∃ t, t < ps.length ∧ gi ps t = top := by
      rcases ht.2.2 with e | e
      · have a := ht.2.1 0 hN; have b := (h3 _ (gi_mem hN)).1
        exact ⟨0, hN, by omega⟩
      · exact e
    obtain ⟨n, hn⟩ := hq.2
    have hhit : f (n * ps.length + (t + (ps.length - f 0))) = t := by
      have hf0 : f 0 < ps.length := (hf 0).1
      rw [hat, show f 0 + (n * ps.length + (t + (ps.length - f 0))) = t + (n + 1) * ps.length by rw [Nat.succ_mul]; omega, Nat.add_mul_mod_self_right, Nat.mod_eq_of_lt htl]
    have hle := hn (n * ps.length + (t + (ps.length - f 0))) (by have := Nat.le_mul_of_pos_right n hN; omega)
    rw [hhit, ring_pr, hte] at hle
    obtain ⟨m, _, e⟩ := hq.1 0
    rw [ring_pr] at e
    have := ht.2.1 (f m) (hf m).1
    omega
theorem won_ring {ps : List Int} {top : Int} (h : okRing ps = true) (ht : TopOf ps top) : (wonL (ringUp ps ps.length)).length = ps.length ∧ ∀ v, v < ps.length → gi (wonL (ringUp ps ps.length)) v = top % 2 :=
  ⟨by rw [wonL_len, ring_len1], fun v hv => by rw [wonL_at (by rw [ring_len1]; exact hv)]; exact ring_won h ht hv⟩
end Go.Proofs.Ytlmhhnplacejkaa
namespace Go.Proofs.Ytlmhhnplacejkaa
open Go.RowKit

/-- the first field of an answer -/
@[go_sem] theorem field_won (w : World) (X Y : Option Addr) (m n x y : Nat) : Sem.run Try.prog (Instr.field 65 (.agg #[.slice X m x, .slice Y n y]) 0) w = .ok (.slice X m x) w := by kernel_rfl
/-- a game in order, of M vertices, whose winners are known -/
def KindOf (g : ParD) (M : Nat) (f : Nat → Int) : Prop := parB g = true ∧ (wonL g).length = M ∧ ∀ v, v < M → gi (wonL g) v = f v
def towW (kept : Bool) (v : Nat) : Int := if kept then (v : Int) % 2 else 0
theorem towerK (M : Nat) (kept : Bool) (w : World) (B : Nat) (hB : B ≤ w.heap.size) (hM : 1 ≤ M ∧ M ≤ 41) :
    Calls Try.prog 38 #[.int .i64 (M : Int), .bool kept] w fun e w' => ∃ s0 s1 s2 g, e = .returned (.tuple #[.agg #[s0, s1, s2], .bool true]) ∧ OPar w' B s0 s1 s2 g ∧ KindOf g M (towW kept) ∧ Below B w w' := by
  have ok : okTower (M : Int) = true := decide_eq_true ⟨by omega, by omega⟩
  refine (implTower (M : Int) kept w B hB).mono ?_
  rintro e w' ⟨s0, s1, s2, rfl, ho, hb⟩
  rw [towerP_yes ok] at ho
  rw [ok]
  obtain ⟨h1, h2⟩ := won_tower (kept := kept) hM
  exact ⟨s0, s1, s2, _, rfl, ho, ⟨tower_par hM.1 hM.2, h1, h2⟩, hb⟩
theorem ringK (A : Option Addr) (n c : Nat) (ps : List Int) (top : Int) (w : World) (B : Nat) (hB : B ≤ w.heap.size) (ha : RI w A n c ps) (hok : okRing ps = true) (ht : TopOf ps top) :
    Calls Try.prog 39 #[.slice A n c] w fun e w' => ∃ s0 s1 s2 g, e = .returned (.tuple #[.agg #[s0, s1, s2], .bool true]) ∧ OPar w' B s0 s1 s2 g ∧ KindOf g ps.length (fun _ => top % 2) ∧ Below B w w' := by
  refine (implRing A n c ps w B hB ha).mono ?_
  rintro e w' ⟨s0, s1, s2, rfl, ho, hb⟩
  rw [ringP_yes hok] at ho
  rw [hok]
  obtain ⟨h1, h2⟩ := won_ring hok ht
  exact ⟨s0, s1, s2, _, rfl, ho, ⟨ring_par hok, h1, h2⟩, hb⟩
theorem solvedK (s0 s1 s2 : Value) (g : ParD) (M : Nat) (f : Nat → Int) (w : World) (B : Nat) (hB : B ≤ w.heap.size) (hag : RPv w s0 s1 s2 g) (hk : KindOf g M f) :
    Calls Try.prog 37 #[.agg #[s0, s1, s2]] w fun e w' => ∃ (X Y : Option Addr) (x y : Nat) (l : List Int), e = .returned (.agg #[.slice X M x, .slice Y M y]) ∧ OI 2 w' B (.slice X M x) l ∧ Hid (l.length = M ∧ ∀ v, v < M → gi l v = f v) ∧ Below B w w' := by
  obtain ⟨hp, h1, h2⟩ := hk
  refine (solved s0 s1 s2 g w B hB hag hp).mono ?_
  rintro e w' ⟨v0, v1, plan, rfl, hv0, hv1, hp1, hb⟩
  obtain ⟨X, x, e⟩ := hv0.form
  subst e
  obtain ⟨Y, y, e⟩ := hv1.form
  subst e
  rw [hp1.1, ← wonL_len g, h1]
  rw [h1] at hv0
  exact ⟨X, Y, x, y, _, rfl, hv0, Lib.hid ⟨h1, h2⟩, hb⟩
end Go.Proofs.Ytlmhhnplacejkaa
