/- Who wins a joined game: in plain words. -/
import Derived.Test.YtlmhhnplacejkaaSolF
import Derived.Test.YtlmhhnplacejkaaJoined
namespace Go.Proofs.Ytlmhhnplacejkaa

theorem parB_fine {g : ParD} (h : finePar g) : parB g = true := by
  obtain ⟨⟨h1, h2, h3, h4⟩, h5, h6⟩ := h
  exact parB_yes (arB_of rfl ⟨h1, h2, h3⟩ fun v hv => vOk_iff.2 (h4 v hv)) ⟨h5, h6⟩
theorem gi_cat {xs ys : List Int} (i : Nat) : gi (xs ++ ys) i = if i < xs.length then gi xs i else gi ys (i - xs.length) := by
  unfold gi
  simp only [List.getD_eq_getElem?_getD]
  split
  · rename_i h; rw [List.getElem?_append_left h]
  · rename_i h; rw [List.getElem?_append_right (by omega)]
theorem gl_cat {xs ys : List (List Int)} (i : Nat) : gl (xs ++ ys) i = if i < xs.length then gl xs i else gl ys (i - xs.length) := by
  unfold gl
  simp only [List.getD_eq_getElem?_getD]
  split
  · rename_i h; rw [List.getElem?_append_left h]
  · rename_i h; rw [List.getElem?_append_right (by omega)]
theorem gl_shift {d : Nat} {xs : List (List Int)} {i : Nat} (h : i < xs.length) : gl (xs.map (shift d)) i = shift d (gl xs i) := by simp [gl, h]
theorem gi_shift {d : Nat} {xs : List Int} {i : Nat} (h : i < xs.length) : gi (shift d xs) i = gi xs i + (d : Int) := by simp [gi, shift, h]
theorem set_shift {d m : Nat} {xs : List Int} (h : setB xs (m : Int) = true) : setB (shift d xs) ((d + m : Nat) : Int) = true := setB_true.2 fun i hi => by
  rw [shift_len] at hi
  obtain ⟨a, b, c⟩ := setB_true.1 h i hi
  unfold setAt
  rw [gi_shift hi]
  refine ⟨by omega, by omega, fun h0 => ?_⟩
  rw [gi_shift (show i - 1 < xs.length by omega)]
  have := c h0
  omega
section
variable {g h : ParD} (hg : finePar g) (hh : finePar h) (hs : g.1.length + h.1.length ≤ 256)
include hg hh hs
theorem join_eq : joinG g h = (g.1 ++ h.1, g.2.1 ++ h.2.1.map (shift g.1.length), g.2.2 ++ h.2.2) := by
  rw [joinG_yes (join_yes (parB_fine hg) (parB_fine hh) (by have := hg.2.1; have := hh.2.1; omega)), joinUp_full hh, hg.2.1]
theorem join_ok : okJoin g h = true := join_yes (parB_fine hg) (parB_fine hh) (by have := hg.2.1; have := hh.2.1; omega)
theorem join_len1 : (joinG g h).1.length = g.1.length + h.1.length := by rw [join_eq hg hh hs]; simp
theorem join_own (v : Nat) : gi (joinG g h).1 v = if v < g.1.length then gi g.1 v else gi h.1 (v - g.1.length) := by rw [join_eq hg hh hs]; exact gi_cat v
theorem join_row {v : Nat} (hv : v < g.1.length + h.1.length) : gl (joinG g h).2.1 v = if v < g.1.length then gl g.2.1 v else shift g.1.length (gl h.2.1 (v - g.1.length)) := by
  have h1 := hg.1.2.2.1; have h2 := hh.1.2.2.1
  rw [join_eq hg hh hs]
  show gl (g.2.1 ++ h.2.1.map (shift g.1.length)) v = _
  rw [gl_cat, h1]
  split
  · rfl
  · exact gl_shift (by omega)
theorem join_pr (v : Nat) : gi (joinG g h).2.2 v = if v < g.1.length then gi g.2.2 v else gi h.2.2 (v - g.1.length) := by
  have h1 := hg.2.1
  rw [join_eq hg hh hs]
  show gi (g.2.2 ++ h.2.2) v = _
  rw [gi_cat, h1]
theorem join_fine : finePar (joinG g h) := by
  obtain ⟨⟨a1, a2, a3, a4⟩, a5, a6⟩ := id hg
  obtain ⟨⟨b1, b2, b3, b4⟩, b5, b6⟩ := id hh
  refine ⟨⟨by rw [join_len1 hg hh hs]; omega, by rw [join_len1 hg hh hs]; omega, by rw [join_eq hg hh hs]; simp; omega, fun v hv => ?_⟩, by rw [join_eq hg hh hs]; simp; omega, fun v hv => ?_⟩
  · rw [join_len1 hg hh hs] at hv ⊢
    rw [join_own hg hh hs, join_row hg hh hs hv]
    by_cases e : v < g.1.length
    · rw [if_pos e, if_pos e]
      obtain ⟨c1, c2, c3⟩ := a4 v e
      exact ⟨c1, c2, setB_up c3 (by omega)⟩
    · rw [if_neg e, if_neg e]
      obtain ⟨c1, c2, c3⟩ := b4 (v - g.1.length) (by omega)
      exact ⟨c1, by rw [shift_len]; exact c2, set_shift c3⟩
  · have hv2 : v < g.1.length + h.1.length := by rw [join_eq hg hh hs] at hv; simp at hv; omega
    rw [join_pr hg hh hs]
    by_cases e : v < g.1.length
    · rw [if_pos e]; exact a6 v (by omega)
    · rw [if_neg e]; exact b6 _ (by omega)
theorem join_left {v : Nat} (hv : v < g.1.length) : wonV (joinG g h) v = wonV g v := by
  obtain ⟨X, s, hw, hx⟩ := won_one hg hv
  refine won_is (join_fine hg hh hs) (wonV_01 g v) (by rw [join_len1 hg hh hs]; omega) ⟨_, _, wins_lift (φ := fun x => x) (ψ := fun x => x) hw (fun _ _ => rfl) (fun v hv => ?_) (fun v x hv he => ?_) (fun v u hv hu he => ?_) (fun v hv => ?_) (fun v hv => ?_), v, hx, rfl⟩
  · have h1 : v < g.1.length := hv; show v < (joinG g h).1.length; rw [join_len1 hg hh hs]; omega
  · have h1 : v < g.1.length := hv
    have he' : hasL (gl (joinG g h).2.1 v) (x : Int) = true := he
    rw [join_row hg hh hs (by omega), if_pos h1] at he'
    have := set_mem (hg.1.2.2.2 v h1).2.2 (hasL_iff.1 he')
    exact ⟨x, show x < _ by omega, rfl, he'⟩
  · have h1 : v < g.1.length := hv
    show hasL (gl (joinG g h).2.1 v) (u : Int) = true
    rw [join_row hg hh hs (by omega), if_pos h1]; exact he
  · have h1 : v < g.1.length := hv
    show gi (joinG g h).1 v = gi g.1 v
    rw [join_own hg hh hs, if_pos h1]
  · have h1 : v < g.1.length := hv
    show gi (joinG g h).2.2 v = gi g.2.2 v
    rw [join_pr hg hh hs, if_pos h1]
theorem join_right {v : Nat} (hv : v < h.1.length) : wonV (joinG g h) (g.1.length + v) = wonV h v := by
  obtain ⟨X, s, hw, hx⟩ := won_one hh hv
  refine won_is (join_fine hg hh hs) (wonV_01 h v) (by rw [join_len1 hg hh hs]; omega) ⟨_, _, wins_lift (φ := fun x => g.1.length + x) (ψ := fun x => x - g.1.length) hw (fun v _ => by omega) (fun v hv => ?_) (fun v x hv he => ?_) (fun v u hv hu he => ?_) (fun v hv => ?_) (fun v hv => ?_), v, hx, rfl⟩
  · have h1 : v < h.1.length := hv; show g.1.length + v < (joinG g h).1.length; rw [join_len1 hg hh hs]; omega
  · have h1 : v < h.1.length := hv
    have he' : hasL (gl (joinG g h).2.1 (g.1.length + v)) (x : Int) = true := he
    rw [join_row hg hh hs (by omega), if_neg (by omega), Nat.add_sub_cancel_left, hasL_iff] at he'
    unfold shift at he'
    obtain ⟨y, hy, e⟩ := List.mem_map.1 he'
    have hb := set_mem (hh.1.2.2.2 v h1).2.2 hy
    refine ⟨y.toNat, show y.toNat < _ by omega, by omega, ?_⟩
    show hasL (gl h.2.1 v) (y.toNat : Int) = true
    rw [show (y.toNat : Int) = y by omega]; exact hasL_iff.2 hy
  · have h1 : v < h.1.length := hv
    show hasL (gl (joinG g h).2.1 (g.1.length + v)) ((g.1.length + u : Nat) : Int) = true
    rw [join_row hg hh hs (by omega), if_neg (by omega), Nat.add_sub_cancel_left, hasL_iff]
    unfold shift
    exact List.mem_map.2 ⟨(u : Int), hasL_iff.1 he, by omega⟩
  · show gi (joinG g h).1 (g.1.length + v) = gi h.1 v
    rw [join_own hg hh hs, if_neg (by omega), Nat.add_sub_cancel_left]
  · show gi (joinG g h).2.2 (g.1.length + v) = gi h.2.2 v
    rw [join_pr hg hh hs, if_neg (by omega), Nat.add_sub_cancel_left]
theorem join_won : wonL (joinG g h) = wonL g ++ wonL h := by
  have hl : (wonL g ++ wonL h).length = g.1.length + h.1.length := by rw [List.length_append, wonL_len, wonL_len]
  refine gi_ext (by rw [wonL_len, join_len1 hg hh hs, hl]) fun j hj => ?_
  rw [wonL_len, join_len1 hg hh hs] at hj
  rw [wonL_at (by rw [join_len1 hg hh hs]; exact hj), gi_cat, wonL_len]
  by_cases e : j < g.1.length
  · rw [if_pos e, wonL_at e, join_left hg hh hs e]
  · rw [if_neg e, wonL_at (by omega)]
    have := join_right hg hh hs (v := j - g.1.length) (by omega)
    rw [show g.1.length + (j - g.1.length) = j by omega] at this
    exact this
end
end Go.Proofs.Ytlmhhnplacejkaa
