/- Who wins a joined game: in plain words. Renaming and raising a game: who wins, and that renaming back gives the game: in plain words. -/
import Derived.Test.YtngadlpfheakiaaSolF
import Derived.Test.YtngadlpfheakiaaJoined
import Derived.Test.YtngadlpfheakiaaRen1
import Derived.Test.YtngadlpfheakiaaRaised
namespace Go.Proofs.Ytngadlpfheakiaa

theorem parB_fine {g : ParD} (h : finePar g) : parB g = true := by
  obtain ⟨⟨h1, h2, h3, h4⟩, h5, h6⟩ := h
  exact parB_yes (arB_of rfl ⟨h1, h2, h3⟩ fun v hv => vOk_iff.2 (h4 v hv)) ⟨h5, h6⟩
theorem gi_cat {xs ys : List Int} (i : Nat) : gi (xs ++ ys) i = if i < xs.length then gi xs i else gi ys (i - xs.length) := by
  unfold gi
  simp only [List.getD_eq_getElem?_getD]
  split
  · rename_i h; rw [List.getElem?_append_left h]
  · rename_i h; rw [List.getElem?_append_right (by omega)]
theorem gl_cat {xs ys : List (List Int)} (i : Nat) : gl (xs ++ ys) i = if i < xs.length then gl xs i else gl ys (i - xs.length) := by
  unfold gl
  simp only [List.getD_eq_getElem?_getD]
  split
  · rename_i h; rw [List.getElem?_append_left h]
  · rename_i h; rw [List.getElem?_append_right (by omega)]
section
variable {g h : ParD} (hg : finePar g) (hh : finePar h) (hs : g.1.length + h.1.length ≤ 256)
include hg hh hs
end
end Go.Proofs.Ytngadlpfheakiaa
namespace Go.Proofs.Ytngadlpfheakiaa

/-- od is an order of the vertices below n -/
def isOrd (od : List Int) (n : Nat) : Prop := od.length = n ∧ (∀ j, j < n → 0 ≤ gi od j ∧ gi od j < (n : Int)) ∧ ∀ i j, i < j → j < n → gi od i ≠ gi od j
theorem where_unset {od : List Int} {n : Nat} : ∀ {k u : Nat}, u < n → (∀ j, j < k → (gi od j).toNat < n ∧ (gi od j).toNat ≠ u) → gi (whereUp od n k) u = -1
  | 0, u, hu, _ => by rw [whereUp, negL, fill_at hu]
  | k + 1, u, hu, h => by
    obtain ⟨h1, h2⟩ := h k (by omega)
    rw [whereUp, gi_set (by rw [where_len]; exact h1), if_neg h2]
    exact where_unset hu fun j hj => h j (by omega)
theorem ord_good {od : List Int} {n : Nat} (h : isOrd od n) : goodUp od n n := fun j hj => by
  refine ⟨h.2.1 j hj, ?_⟩
  rw [where_unset (by have := h.2.1 j hj; omega) fun i hi => ?_]
  · omega
  · have h1 := h.2.1 j hj; have h2 := h.2.1 i (by omega); have h3 := h.2.2 i j hi hj
    exact ⟨by omega, by omega⟩
theorem ord_order {od : List Int} {n : Nat} (h : isOrd od n) : orderB od n = true := order_yes h.1 (ord_good h)
section
variable {od : List Int} {n : Nat} (h : isOrd od n)
include h
theorem wh_bd {u : Nat} (hu : u < n) : ∃ j, j < n ∧ gi (whereUp od n n) u = (j : Int) ∧ gi od j = (u : Int) := where_at (ord_good h) u hu (where_full (ord_good h) hu)
theorem wh_od {i : Nat} (hi : i < n) : gi (whereUp od n n) (gi od i).toNat = (i : Int) := by
  have h1 := h.2.1 i hi
  obtain ⟨j, hj, e1, e2⟩ := wh_bd h (u := (gi od i).toNat) (by omega)
  rw [e1]
  rcases Nat.lt_trichotomy j i with e | e | e
  · exact absurd (by omega) (h.2.2 j i e hi)
  · omega
  · exact absurd (by omega) (h.2.2 i j e hj)
theorem wh_ord : isOrd (whereUp od n n) n := by
  refine ⟨where_len _ _ _, fun j hj => ?_, fun i j hij hj e => ?_⟩
  · obtain ⟨k, h1, h2, _⟩ := wh_bd h hj; omega
  · obtain ⟨a, _, a1, a2⟩ := wh_bd h (show i < n by omega)
    obtain ⟨b, _, b1, b2⟩ := wh_bd h hj
    have hab : a = b := by omega
    subst hab
    omega
theorem wh_back : whereUp (whereUp od n n) n n = od := by
  refine gi_ext (by rw [where_len, h.1]) fun v hv => ?_
  rw [where_len] at hv
  have h1 := h.2.1 v hv
  have e := wh_od (wh_ord h) (i := (gi od v).toNat) (by omega)
  rw [wh_od h hv] at e
  simp only [Int.toNat_natCast] at e
  rw [e]; omega
theorem back_is {bs : List Int} (hl : bs.length = n) (hb : ∀ i, i < n → gi bs (gi od i).toNat = (i : Int)) : bs = whereUp od n n := by
  refine gi_ext (by rw [where_len, hl]) fun u hu => ?_
  obtain ⟨j, h1, h2, h3⟩ := wh_bd h (u := u) (by omega)
  have := hb j h1
  rw [h3] at this
  simp only [Int.toNat_natCast] at this
  rw [this, h2]
end
theorem renUp_at {g : ParD} {od at_ : List Int} : ∀ {k i : Nat}, i < k → gi (renUpG g od at_ k).1 i = gi g.1 (gi od i).toNat ∧ gl (renUpG g od at_ k).2.1 i = putsL (newNx at_ (gl g.2.1 (gi od i).toNat)) ∧ gi (renUpG g od at_ k).2.2 i = gi g.2.2 (gi od i).toNat
  | k + 1, i, hi => by
    obtain ⟨l1, l2, l3⟩ := renUpG_len g od at_ k
    rw [renUpG]
    unfold addV
    dsimp only
    rw [gi_cat, gl_cat, gi_cat, l1, l2, l3]
    by_cases e : i < k
    · rw [if_pos e, if_pos e, if_pos e]; exact renUp_at e
    · obtain rfl : i = k := by omega
      rw [if_neg e, if_neg e, if_neg e, Nat.sub_self]
      exact ⟨rfl, rfl, rfl⟩
section
variable {g : ParD} {od : List Int} (hg : finePar g) (h : isOrd od g.1.length)
include hg h
theorem ren_eq : renG g od = renUpG g od (whereUp od g.1.length g.1.length) g.1.length := by
  rw [renG_yes (okRen_yes (parB_fine hg) (by rw [hg.2.1]; exact ord_order h)), hg.2.1]
theorem ren_ok : okRen g od = true := okRen_yes (parB_fine hg) (by rw [hg.2.1]; exact ord_order h)
theorem ren_len : (renG g od).1.length = g.1.length ∧ (renG g od).2.1.length = g.1.length ∧ (renG g od).2.2.length = g.1.length := by rw [ren_eq hg h]; exact renUpG_len _ _ _ _
theorem ren_own {i : Nat} (hi : i < g.1.length) : gi (renG g od).1 i = gi g.1 (gi od i).toNat := by rw [ren_eq hg h]; exact (renUp_at hi).1
theorem ren_pr {i : Nat} (hi : i < g.1.length) : gi (renG g od).2.2 i = gi g.2.2 (gi od i).toNat := by rw [ren_eq hg h]; exact (renUp_at hi).2.2
theorem ren_row {i : Nat} (hi : i < g.1.length) : (gl (renG g od).2.1 i).Pairwise (· < ·) ∧ (gl (renG g od).2.1 i).length ≤ (gl g.2.1 (gi od i).toNat).length ∧ ∀ z, z ∈ gl (renG g od).2.1 i ↔ ∃ r, r ∈ gl g.2.1 (gi od i).toNat ∧ z = gi (whereUp od g.1.length g.1.length) r.toNat := by
  rw [ren_eq hg h, (renUp_at hi).2.1]
  obtain ⟨p1, p2⟩ := putsL_asc (newNx (whereUp od g.1.length g.1.length) (gl g.2.1 (gi od i).toNat))
  refine ⟨p1, by have := putsL_len (newNx (whereUp od g.1.length g.1.length) (gl g.2.1 (gi od i).toNat)); rw [newNx_len] at this; exact this, fun z => ?_⟩
  rw [p2]
  unfold newNx
  rw [List.mem_map]
  constructor
  · rintro ⟨r, hr, e⟩; exact ⟨r, hr, e.symm⟩
  · rintro ⟨r, hr, e⟩; exact ⟨r, hr, e.symm⟩
theorem ren_fine : finePar (renG g od) := by
  obtain ⟨l1, l2, l3⟩ := ren_len hg h
  obtain ⟨⟨a1, a2, a3, a4⟩, a5, a6⟩ := id hg
  refine ⟨⟨by omega, by omega, by omega, fun v hv => ?_⟩, by omega, fun v hv => ?_⟩
  · rw [l1] at hv
    have ho := h.2.1 v hv
    have hov : (gi od v).toNat < g.1.length := by omega
    obtain ⟨c1, c2, c3⟩ := a4 _ hov
    obtain ⟨r1, r2, r3⟩ := ren_row hg h hv
    refine ⟨by rw [ren_own hg h hv]; exact c1, ⟨?_, by omega⟩, setB_of_rises (rises_pair.2 r1) fun x hx => ?_⟩
    · have hm : gi (gl g.2.1 (gi od v).toNat) 0 ∈ gl g.2.1 (gi od v).toNat := gi_mem (by omega)
      exact List.length_pos_of_mem ((r3 _).2 ⟨_, hm, rfl⟩)
    · obtain ⟨r, hr, e⟩ := (r3 x).1 hx
      have hb := set_mem c3 hr
      have := (wh_ord h).2.1 r.toNat (by omega)
      rw [l1, e]; exact this
  · rw [l3] at hv
    have ho := h.2.1 v hv
    rw [ren_pr hg h hv]; exact a6 _ (by omega)
theorem ren_won {i : Nat} (hi : i < g.1.length) : gi (wonL (renG g od)) i = gi (wonL g) (gi od i).toNat := by
  obtain ⟨l1, l2, l3⟩ := ren_len hg h
  have ho := h.2.1 i hi
  have hv : (gi od i).toNat < g.1.length := by omega
  rw [wonL_at (by omega), wonL_at hv]
  obtain ⟨X, s, hw, hx⟩ := won_one hg hv
  have back : ∀ v, v < g.1.length → (gi (whereUp od g.1.length g.1.length) v).toNat < g.1.length ∧ (gi od (gi (whereUp od g.1.length g.1.length) v).toNat).toNat = v := fun v hv => by
    obtain ⟨j, h1, h2, h3⟩ := wh_bd h hv
    rw [h2]; simp only [Int.toNat_natCast]; exact ⟨h1, by omega⟩
  have bd : ∀ v r, v < g.1.length → r ∈ gl g.2.1 v → 0 ≤ r ∧ r < (g.1.length : Int) := fun v r hv hr => set_mem (hg.1.2.2.2 v hv).2.2 hr
  refine won_is (ren_fine hg h) (wonV_01 g _) (by omega) ⟨_, _, wins_lift (φ := fun v => (gi (whereUp od g.1.length g.1.length) v).toNat) (ψ := fun i => (gi od i).toNat) hw (fun v hv => (back v hv).2) (fun v hv => ?_) (fun v x hv he => ?_) (fun v u hv hu he => ?_) (fun v hv => ?_) (fun v hv => ?_), (gi od i).toNat, hx, ?_⟩
  · show _ < (renG g od).1.length; rw [l1]; exact (back v hv).1
  · have he' : hasL (gl (renG g od).2.1 (gi (whereUp od g.1.length g.1.length) v).toNat) (x : Int) = true := he
    rw [hasL_iff, (ren_row hg h (back v hv).1).2.2, (back v hv).2] at he'
    obtain ⟨r, hr, e⟩ := he'
    have hb := bd v r hv hr
    refine ⟨r.toNat, show r.toNat < _ by omega, by show x = (gi _ r.toNat).toNat; omega, ?_⟩
    show hasL (gl g.2.1 v) (r.toNat : Int) = true
    rw [show (r.toNat : Int) = r by omega]; exact hasL_iff.2 hr
  · have he' : (u : Int) ∈ gl g.2.1 v := hasL_iff.1 he
    show hasL (gl (renG g od).2.1 (gi (whereUp od g.1.length g.1.length) v).toNat) (((gi (whereUp od g.1.length g.1.length) u).toNat : Nat) : Int) = true
    rw [hasL_iff, (ren_row hg h (back v hv).1).2.2, (back v hv).2]
    have := (wh_ord h).2.1 u hu
    exact ⟨(u : Int), he', by simp only [Int.toNat_natCast]; omega⟩
  · show gi (renG g od).1 _ = gi g.1 v
    rw [ren_own hg h (back v hv).1, (back v hv).2]
  · show gi (renG g od).2.2 _ = gi g.2.2 v
    rw [ren_pr hg h (back v hv).1, (back v hv).2]
  · show i = (gi (whereUp od g.1.length g.1.length) (gi od i).toNat).toNat
    rw [wh_od h hi]; rfl
theorem ren_back : renG (renG g od) (whereUp od g.1.length g.1.length) = g := by
  obtain ⟨l1, l2, l3⟩ := ren_len hg h
  have hf2 := ren_fine hg h
  have ho2 : isOrd (whereUp od g.1.length g.1.length) (renG g od).1.length := by rw [l1]; exact wh_ord h
  obtain ⟨m1, m2, m3⟩ := ren_len hf2 ho2
  have h2 := hg.1.2.2.1; have h3 := hg.2.1
  have back : ∀ v, v < g.1.length → (gi (whereUp od g.1.length g.1.length) v).toNat < g.1.length ∧ (gi od (gi (whereUp od g.1.length g.1.length) v).toNat).toNat = v := fun v hv => by
    obtain ⟨j, h1, h2, h3⟩ := wh_bd h hv
    rw [h2]; simp only [Int.toNat_natCast]; exact ⟨h1, by omega⟩
  refine Prod.ext (gi_ext (by omega) fun v hv => ?_) (Prod.ext (gl_ext (by show _ = _; omega) fun v hv => ?_) (gi_ext (by show _ = _; omega) fun v hv => ?_))
  · have hv' : v < g.1.length := by omega
    rw [ren_own hf2 ho2 (by omega), ren_own hg h (back v hv').1, (back v hv').2]
  · have hv' : v < g.1.length := by have h9 : v < (renG (renG g od) (whereUp od g.1.length g.1.length)).2.1.length := hv; omega
    obtain ⟨r1, _, r3⟩ := ren_row hf2 ho2 (i := v) (by omega)
    refine pair_ext r1 (rises_pair.1 (rises_set (hg.1.2.2.2 v hv').2.2)) fun z => ?_
    rw [r3, l1, wh_back h]
    constructor
    · rintro ⟨r, hr, e⟩
      obtain ⟨s, hs, e2⟩ := ((ren_row hg h (back v hv').1).2.2 r).1 hr
      rw [(back v hv').2] at hs
      have hb := set_mem (hg.1.2.2.2 v hv').2.2 hs
      obtain ⟨j, j1, j2, j3⟩ := wh_bd h (u := s.toNat) (by omega)
      rw [j2] at e2
      subst e2
      simp only [Int.toNat_natCast] at e
      rw [e, j3, show ((s.toNat : Nat) : Int) = s by omega]; exact hs
    · intro hz
      have hb := set_mem (hg.1.2.2.2 v hv').2.2 hz
      obtain ⟨j, j1, j2, j3⟩ := wh_bd h (u := z.toNat) (by omega)
      refine ⟨(j : Int), ((ren_row hg h (back v hv').1).2.2 _).2 ⟨z, by rw [(back v hv').2]; exact hz, j2.symm⟩, ?_⟩
      simp only [Int.toNat_natCast]; omega
  · have hv' : v < g.1.length := by have h9 : v < (renG (renG g od) (whereUp od g.1.length g.1.length)).2.2.length := hv; omega
    show gi (renG (renG g od) (whereUp od g.1.length g.1.length)).2.2 v = gi g.2.2 v
    rw [ren_pr hf2 ho2 (by omega), ren_pr hg h (back v hv').1, (back v hv').2]
end
section
variable {g : ParD} {d : Int} (hg : finePar g) (h0 : 0 ≤ d) (h1 : d ≤ 40) (hp : ∀ v, v < g.2.2.length → gi g.2.2 v + 2 * d ≤ 40)
include hg h0 h1 hp
theorem rs_ok : okRaise g d = true := raise_yes (parB_fine hg) (decide_eq_true ⟨h0, h1⟩) hp
theorem rs_eq : raiseG g d = (g.1, g.2.1, g.2.2.map (· + 2 * d)) := by
  have h2 := hg.1.2.2.1; have h3 := hg.2.1
  rw [raiseG_yes (rs_ok hg h0 h1 hp)]
  unfold raiseUp
  rw [List.take_of_length_le (by omega), List.take_of_length_le (by omega), List.take_of_length_le (Nat.le_refl _)]
theorem rs_pr {v : Nat} (hv : v < g.2.2.length) : gi (raiseG g d).2.2 v = gi g.2.2 v + 2 * d := by rw [rs_eq hg h0 h1 hp]; simp [gi, hv]
theorem rs_fine : finePar (raiseG g d) := by
  have e := rs_eq hg h0 h1 hp
  refine ⟨by rw [e]; exact hg.1, by rw [e]; simp; exact hg.2.1, fun v hv => ?_⟩
  have hv' : v < g.2.2.length := by rw [e] at hv; simpa using hv
  rw [rs_pr hg h0 h1 hp hv']
  have := hg.2.2 v hv'; have := hp v hv'
  omega
theorem rs_won : wonL (raiseG g d) = wonL g := by
  have e := rs_eq hg h0 h1 hp
  have el : (raiseG g d).1.length = g.1.length := by rw [e]
  refine gi_ext (by rw [wonL_len, wonL_len, el]) fun v hv => ?_
  rw [wonL_len, el] at hv
  rw [wonL_at (by omega), wonL_at hv]
  obtain ⟨X, s, hw, hx⟩ := won_one hg hv
  refine won_is (rs_fine hg h0 h1 hp) (wonV_01 g v) (by omega) ⟨X, s, ?_, hx⟩
  rw [el]
  exact wins_raise (d := d) hw (fun v u => by show hasL (gl (raiseG g d).2.1 v) _ = true ↔ hasL (gl g.2.1 v) _ = true; rw [e]) (fun v _ => by show gi (raiseG g d).1 v = _; rw [e]; rfl) (fun v hv => rs_pr hg h0 h1 hp (by have h3 := hg.2.1; have h9 : v < g.1.length := hv; omega))
end
/-- an order, one number put in -/
theorem ord_ins {xs : List Int} {k n : Nat} (h : isOrd xs n) (hk : k ≤ n) : isOrd ((xs.take k ++ [(n : Int)]) ++ xs.drop k) (n + 1) := by
  obtain ⟨h1, h2, h3⟩ := h
  have hl : (xs.take k).length = k := by rw [List.length_take]; omega
  have key : ∀ i, gi ((xs.take k ++ [(n : Int)]) ++ xs.drop k) i = if i < k then gi xs i else if i = k then (n : Int) else gi xs (i - 1) := fun i => by
    rw [gi_cat, List.length_append, hl, List.length_singleton, gi_cat, hl, gi_drop]
    by_cases a : i < k
    · rw [if_pos (by omega), if_pos a, if_pos a, gi_take a]
    · by_cases b : i = k
      · subst b; rw [if_pos (by omega), if_neg a, if_neg a, if_pos rfl, Nat.sub_self]; rfl
      · rw [if_neg (by omega), if_neg a, if_neg b, show k + (i - (k + 1)) = i - 1 by omega]
  refine ⟨by simp; omega, fun j hj => ?_, fun i j hij hj => ?_⟩
  · rw [key]
    split
    · have := h2 j (by omega); omega
    · split
      · omega
      · have := h2 (j - 1) (by omega); omega
  · rw [key, key]
    have b1 := fun t (ht : t < n) => h2 t ht
    split
    · rename_i a
      have := b1 i (by omega)
      split
      · exact h3 i j hij (by omega)
      · split
        · omega
        · exact h3 i (j - 1) (by omega) (by omega)
    · split
      · rw [if_neg (by omega), if_neg (by omega)]
        have := b1 (j - 1) (by omega)
        omega
      · rw [if_neg (by omega), if_neg (by omega)]
        exact h3 (i - 1) (j - 1) (by omega) (by omega)
theorem ord_nil : isOrd [] 0 := ⟨rfl, fun j hj => absurd hj (by omega), fun i j _ hj => absurd hj (by omega)⟩
end Go.Proofs.Ytngadlpfheakiaa
